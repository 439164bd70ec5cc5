import Derived.Test.YtfbnaobiondblaaGreatDoorRouteAssignsM
import Derived.Test.YtfbnaobiondblaaGreatDoorPl
namespace Go.Proofs.YtfbnaobiondblaaGreatDoor.M
open Go Go.Pu
set_option linter.unusedSimpArgs false
set_option linter.unusedVariables false
def ChOk (c : cal_Change) : Prop := 1 ≤ c.at_ ∧ c.at_ ≤ 3000000 ∧ -1440 ≤ c.offset ∧ c.offset ≤ 1440
def ZoneOk (z : cal_Zone) : Prop := (-1440 ≤ z.offset ∧ z.offset ≤ 1440) ∧ (∀ (j : Nat) (c : cal_Change), z.changes[j]? = some c → ChOk c) ∧ ∀ (j : Nat) (c d : cal_Change), z.changes[j]? = some c → z.changes[j + 1]? = some d → c.at_ < d.at_
theorem zoneFault_bad (n : Int) : (!(cal_within n (-1440) 1440)) = portref2_ZoneFault_1 n := by
 simp only [cal_within, portref2_ZoneFault_1]
 rw [Bool.eq_iff_iff]
 simp
theorem zone_eq (z : cal_Zone) : ∃ r, cal_CheckZone z = some r ∧ portref2_ZoneFault z = some r ∧ (r = 0 → ZoneOk z) := by
 unfold cal_CheckZone portref2_ZoneFault
 rw [zoneFault_bad]
 by_cases h1 : portref2_ZoneFault_1 z.offset = true
 ·simp only [h1, if_true]; exact ⟨2, rfl, rfl, fun h => absurd h (by decide)⟩
 simp only [h1, if_false]
 by_cases h2 : (60 : Int) < (z.changes.length : Int)
 ·simp only [h2, decide_true, if_true]; exact ⟨4, rfl, rfl, fun h => absurd h (by decide)⟩
 simp only [h2, decide_false, Bool.false_eq_true, if_false]
 simp only [zoneFault_bad, if_true]
 have hoff : -1440 ≤ z.offset ∧ z.offset ≤ 1440 := by
  simp [portref2_ZoneFault_1] at h1; omega
 have sim := rangeB_sim (R := Int) z.changes.length
  (b := fun (k34 : Nat) (s35 : Int × Int) => Option.bind (idx z.changes (k34 : Int)) fun x45 => if ((!(cal_within x45.at_ 1 3000000)) || portref2_ZoneFault_1 x45.offset) = true then some (.rt 2) else if (decide (x45.at_ ≤ s35.1)) = true then some (.rt 5) else if (x45.offset == s35.2) = true then some (.rt 1) else some (.nx (x45.at_, x45.offset)))
  (b' := fun k32 s33 => Option.bind (idx z.changes (k32 : Int)) fun x43 => Option.bind (if (decide (x43.at_ < 1)) = true then (some true) else (if (decide ((3000000 : Int) < x43.at_)) = true then (some true) else (some (portref2_ZoneFault_1 x43.offset)))) fun s61 => if s61 = true then some (.rt 2) else Option.bind (if (decide ((0 : Int) < (k32 : Int))) = true then (Option.bind (idx z.changes (w64 ((k32 : Int) - 1))) fun x75 => some (decide (x43.at_ ≤ x75.at_))) else (some false)) fun s68 => if s68 = true then some (.rt 5) else if (x43.offset == s33) = true then some (.rt 1) else some (.nx x43.offset))
  (s := (0, z.offset)) (s' := z.offset)
  (fun r => r ≠ 0) (fun k s s' => s.2 = s' ∧ (k = 0 → s.1 = 0) ∧ (∀ (j : Nat) (c : cal_Change), j < k → z.changes[j]? = some c → ChOk c) ∧ (∀ (j : Nat) (c d : cal_Change), j + 1 < k → z.changes[j]? = some c → z.changes[j + 1]? = some d → c.at_ < d.at_) ∧ ∀ c, 0 < k → z.changes[k - 1]? = some c → s.1 = c.at_)
  ⟨rfl, fun _ => rfl, fun j c h => absurd h (Nat.not_lt_zero _), fun j c d h => absurd h (Nat.not_lt_zero _), fun c h => absurd h (Nat.lt_irrefl _)⟩ ?_
 ·rcases sim with ⟨r, e1, e2, hr⟩ | ⟨t, t', e1, e2, hI⟩
  ·rw [e1, e2]
   exact ⟨r, rfl, rfl, fun h => absurd h hr⟩
  ·rw [e1, e2]
   refine ⟨0, rfl, rfl, fun _ => ⟨hoff, fun j c hc => hI.2.2.1 j c (List.getElem?_eq_some_iff.1 hc).1 hc, fun j c d hc hd => hI.2.2.2.1 j c d (List.getElem?_eq_some_iff.1 hd).1 hc hd⟩⟩
 ·rintro k ⟨a, o⟩ s' hk ⟨rfl, hz, hall, hord, hprev⟩
  simp only at hz hprev ⊢
  obtain ⟨c, hc⟩ : ∃ c, z.changes[k]? = some c := ⟨_, List.getElem?_eq_getElem hk⟩
  have hw : w64 ((k : Int) - 1) = (k : Int) - 1 := w64_id (by omega) (by omega)
  simp only [idx_nat, hc, Option.bind_some, hw]
  have hin : cal_within c.at_ 1 3000000 = (decide (1 ≤ c.at_) && decide (c.at_ ≤ 3000000)) := rfl
  by_cases hat : 1 ≤ c.at_ ∧ c.at_ ≤ 3000000
  ·have e1 : decide (c.at_ < 1) = false := by simp; omega
   have e1' : decide ((3000000 : Int) < c.at_) = false := by simp; omega
   have e2 : cal_within c.at_ 1 3000000 = true := by rw [hin]; simp [hat]
   simp only [e1, e1', e2, Bool.not_true, Bool.false_or, Bool.false_eq_true, if_false, Option.bind_some]
   by_cases hb : portref2_ZoneFault_1 c.offset = true
   ·simp only [hb, if_true]; exact Or.inl ⟨2, rfl, rfl, by decide⟩
   simp only [hb, Bool.false_eq_true, if_false]
   have hco : -1440 ≤ c.offset ∧ c.offset ≤ 1440 := by simp [portref2_ZoneFault_1] at hb; omega
   have same : (if (decide ((0 : Int) < (k : Int))) = true then (Option.bind (idx z.changes ((k : Int) - 1)) fun x75 => some (decide (c.at_ ≤ x75.at_))) else (some false)) = some (decide (c.at_ ≤ a)) := by
    by_cases h0 : 0 < k
    ·have : (0 : Int) < (k : Int) := by omega
     simp only [this, decide_true, if_true]
     rw [show (k : Int) - 1 = ((k - 1 : Nat) : Int) by omega, idx_lt _ _ (by omega), Option.bind_some, hprev _ h0 (List.getElem?_eq_getElem (by omega))]
    ·obtain rfl : k = 0 := by omega
     rw [hz rfl]
     have : ¬ c.at_ ≤ 0 := by omega
     simp [this]
   rw [same, Option.bind_some]
   by_cases h5 : c.at_ ≤ a
   ·simp only [h5, decide_true, if_true]; exact Or.inl ⟨5, rfl, rfl, by decide⟩
   simp only [h5, decide_false, Bool.false_eq_true, if_false]
   by_cases h6 : (c.offset == o) = true
   ·simp only [h6, if_true]; exact Or.inl ⟨1, rfl, rfl, by decide⟩
   simp only [h6, Bool.false_eq_true, if_false]
   refine Or.inr ⟨_, _, rfl, rfl, rfl, fun h => absurd h (by omega), ?_, ?_, ?_⟩
   ·intro j d hj hd
    rcases Nat.lt_or_eq_of_le (Nat.le_of_lt_succ hj) with h | rfl
    ·exact hall j d h hd
    ·rw [hc] at hd; cases hd; exact ⟨hat.1, hat.2, hco.1, hco.2⟩
   ·intro j d1 d2 hj h1' h2'
    rcases Nat.lt_or_eq_of_le (Nat.le_of_lt_succ hj) with h | rfl
    ·exact hord j d1 d2 h h1' h2'
    ·rw [hc] at h2'; cases h2'
     have := hprev d1 (by omega) (by simpa using h1')
     omega
   ·intro d _ hd
    rw [Nat.add_sub_cancel, hc] at hd; cases hd; rfl
  ·have e2 : cal_within c.at_ 1 3000000 = false := by rw [hin]; simp; omega
   have e1 : (if (decide (c.at_ < 1)) = true then (some true) else (if (decide ((3000000 : Int) < c.at_)) = true then (some true) else (some (portref2_ZoneFault_1 c.offset)))) = some true := by
    by_cases h : c.at_ < 1
    ·simp [h]
    ·have : (3000000 : Int) < c.at_ := by omega
     simp [h, this]
   simp only [e1, e2, if_true, Bool.not_false, Bool.true_or, Option.bind_some]
   exact Or.inl ⟨2, rfl, rfl, by decide⟩
theorem or_two (a b : Int) : cmp_Or_api_Errno [a, b] = some (if a ≠ 0 then a else b) := by
 by_cases ha : a = 0 <;> by_cases hb : b = 0 <;> simp [cmp_Or_api_Errno, rangeB, idx, ha, hb, Lp.andThen]
def offTo (z : cal_Zone) (m : Int) : Nat → Int
 | 0 => z.offset
 | k + 1 => match z.changes[k]? with
  | some c => if c.at_ ≤ m then c.offset else offTo z m k
  | none => offTo z m k
def off (z : cal_Zone) (m : Int) : Int := offTo z m z.changes.length
theorem offTo_bound {z : cal_Zone} (hz : ZoneOk z) (m : Int) (k : Nat) : -1440 ≤ offTo z m k ∧ offTo z m k ≤ 1440 := by
 induction k with
 | zero => exact hz.1
 | succ k ih =>
  rw [offTo]
  cases h : z.changes[k]? with
  | none => exact ih
  | some c =>
   simp only
   split
   ·exact (hz.2.1 k c h).2.2
   ·exact ih
theorem off_bound {z : cal_Zone} (hz : ZoneOk z) (m : Int) : -1440 ≤ off z m ∧ off z m ≤ 1440 := offTo_bound hz m _
theorem offsetIn_val (z : cal_Zone) (m : Int) : portref2_OffsetIn z m = some (off z m) := by
 unfold portref2_OffsetIn
 obtain ⟨t, h, rfl⟩ := rangeB_inv (R := Int) (b := fun k17 s23 => Option.bind (Option.bind (idx z.changes (k17 : Int)) fun x44 => Option.bind (if (decide (x44.at_ ≤ m)) = true then some x44.offset else some s23) fun s59 => some s59) fun s37 => some (.nx s37)) z.changes.length
  (fun k x => x = offTo z m k) (s := z.offset) rfl (by
   rintro k _ hk rfl
   have hc : z.changes[k]? = some z.changes[k] := List.getElem?_eq_getElem hk
   rw [idx_lt _ _ hk, offTo, hc]
   by_cases hm : z.changes[k].at_ ≤ m
   ·simp [hm]
   ·simp [hm])
 rw [h]
 rfl
def fr (z : cal_Zone) : Nat → Int
 | 0 => 0
 | k + 1 => match z.changes[k]? with
  | some c => c.at_
  | none => 3000001
def ofs (z : cal_Zone) : Nat → Int
 | 0 => z.offset
 | k + 1 => match z.changes[k]? with
  | some c => c.offset
  | none => 0
theorem fr_lt {z : cal_Zone} (hz : ZoneOk z) (k : Nat) (hk : k ≤ z.changes.length) : fr z k < fr z (k + 1) := by
 cases k with
 | zero =>
  rw [fr, fr]
  cases h : z.changes[0]? with
  | none => simp
  | some c => have := (hz.2.1 0 c h).1; simp only; omega
 | succ k =>
  have hc : z.changes[k]? = some z.changes[k] := List.getElem?_eq_getElem (by omega)
  generalize z.changes[k] = c at hc
  rw [fr, fr, hc]
  have h1 := hz.2.1 k c hc
  cases h : z.changes[k + 1]? with
  | none => have := h1.2.1; simp only; omega
  | some d => exact hz.2.2 k c d hc h
theorem fr_le {z : cal_Zone} (hz : ZoneOk z) (k : Nat) : ∀ d, k + d ≤ z.changes.length + 1 → fr z k ≤ fr z (k + d)
 | 0, _ => Int.le_refl _
 | d + 1, h => by
  have h1 := fr_le hz k d (by omega)
  have h2 := fr_lt hz (k + d) (by omega)
  rw [← Nat.add_assoc]
  omega
theorem fr_last (z : cal_Zone) : fr z (z.changes.length + 1) = 3000001 := by
 rw [fr]
 simp
theorem fr_range {z : cal_Zone} (hz : ZoneOk z) (k : Nat) (hk : k ≤ z.changes.length + 1) : 0 ≤ fr z k ∧ fr z k ≤ 3000001 := by
 have h1 := fr_le hz 0 k (by omega)
 have h2 := fr_le hz k (z.changes.length + 1 - k) (by omega)
 rw [Nat.zero_add, fr] at h1
 rw [show k + (z.changes.length + 1 - k) = z.changes.length + 1 by omega, fr_last] at h2
 exact ⟨h1, h2⟩
theorem ofs_bound {z : cal_Zone} (hz : ZoneOk z) (k : Nat) : -1440 ≤ ofs z k ∧ ofs z k ≤ 1440 := by
 cases k with
 | zero => exact hz.1
 | succ k =>
  rw [ofs]
  cases h : z.changes[k]? with
  | none => simp
  | some c => exact (hz.2.1 k c h).2.2
theorem off_part {z : cal_Zone} (hz : ZoneOk z) (k : Nat) (hk : k ≤ z.changes.length) (m : Int) (h1 : fr z k ≤ m) (h2 : m < fr z (k + 1)) : off z m = ofs z k := by
 have base : offTo z m k = ofs z k := by
  cases k with
  | zero => rfl
  | succ k =>
   have hc : z.changes[k]? = some z.changes[k] := List.getElem?_eq_getElem (by omega)
   generalize z.changes[k] = c at hc
   rw [fr, hc] at h1
   rw [offTo, ofs, hc]
   simp only at h1 ⊢
   rw [if_pos h1]
 have step : ∀ d, k + d ≤ z.changes.length → offTo z m (k + d) = offTo z m k := by
  intro d
  induction d with
  | zero => intro _; rfl
  | succ d ih =>
   intro hd
   rw [← Nat.add_assoc, offTo, ih (by omega)]
   have hc : z.changes[k + d]? = some z.changes[k + d] := List.getElem?_eq_getElem (by omega)
   have h3 := fr_le hz (k + 1) d (by omega)
   rw [show k + 1 + d = k + d + 1 by omega, show fr z (k + d + 1) = z.changes[k + d].at_ by rw [fr, hc]] at h3
   rw [hc]
   simp only at h3 ⊢
   rw [if_neg (by omega)]
 have := step (z.changes.length - k) (by omega)
 rw [show k + (z.changes.length - k) = z.changes.length by omega] at this
 unfold off
 rw [this, base]
end Go.Proofs.YtfbnaobiondblaaGreatDoor.M
namespace Go.Proofs.YtfbnaobiondblaaGreatDoor.M
open Go Go.Pu
set_option linter.unusedSimpArgs false
set_option linter.unusedVariables false
theorem compare_swap (a b : Int) : cmp_Compare_int b a = - cmp_Compare_int a b := by
 have h : ∀ x : Int, cmp_isNaN_int x = false := fun x => by simp [cmp_isNaN_int]
 unfold cmp_Compare_int
 simp only [h, Bool.false_eq_true, if_false]
 by_cases h1 : a < b
 ·have h2 : ¬ b < a := by omega
  simp [h1, h2]
 ·by_cases h2 : b < a <;> simp [h1, h2]
theorem compare_val (a b : Int) : cmp_Compare_int a b = if a < b then -1 else if b < a then 1 else 0 := by
 have h : ∀ x : Int, cmp_isNaN_int x = false := fun x => by simp [cmp_isNaN_int]
 unfold cmp_Compare_int
 simp only [h, Bool.false_eq_true, if_false]
 by_cases h1 : a < b
 ·simp [h1]
 ·by_cases h2 : b < a <;> simp [h1, h2]
theorem or_three (a b c : Int) : cmp_Or_int [a, b, c] = some (if a ≠ 0 then a else if b ≠ 0 then b else c) := by
 by_cases ha : a = 0 <;> by_cases hb : b = 0 <;> by_cases hc : c = 0 <;> simp [cmp_Or_int, rangeB, idx, ha, hb, hc, Lp.andThen]
def ShOk (s : cal_Shift) : Prop := 0 ≤ s.from_ ∧ s.from_ ≤ 1439 ∧ s.from_ < s.to_ ∧ s.to_ ≤ s.from_ + 1440
def ShLe (p s : cal_Shift) : Prop := p.day < s.day ∨ (p.day = s.day ∧ p.from_ ≤ s.from_)
def ShsOk (l : List cal_Shift) : Prop := (∀ (j : Nat) (s : cal_Shift), l[j]? = some s → ShOk s) ∧ ∀ (j : Nat) (p s : cal_Shift), l[j]? = some p → l[j + 1]? = some s → ShLe p s
theorem shifts_eq (l : List cal_Shift) (week : Bool) (hl60 : l.length ≤ 60) : ∃ r, cal_checkShifts l (!week) = some r ∧ portref2_shiftFault l week = some r ∧ (r = 0 → ShsOk l ∧ (week = false → ∀ (j : Nat) (s : cal_Shift), l[j]? = some s → s.day = 0)) := by
 unfold cal_checkShifts portref2_shiftFault
 have sim := rangeB_sim (R := Int) l.length
  (b := fun k6 (_ : Unit) => Option.bind (idx l (k6 : Int)) fun x25 => if ((!week) && (x25.day != 0)) = true then some (.rt 1) else if ((((!(cal_within x25.day 0 6)) || (!(cal_within x25.from_ 0 1439))) || (decide (x25.to_ ≤ x25.from_))) || (decide ((w64 (x25.from_ + 1440)) < x25.to_))) = true then some (.rt 2) else Option.bind (if (decide ((0 : Int) < (k6 : Int))) = true then (Option.bind (idx l (w64 ((k6 : Int) - 1))) fun x58 => Option.bind (cal_after x25 x58) fun x63 => some (!x63)) else (some false)) fun s56 => if s56 = true then some (.rt 5) else some (.nx ()))
  (b' := fun k6 (_ : Unit) => Option.bind (α := Lp _ _) (Option.bind (idx l (k6 : Int)) fun x33 => if ((!week) && (x33.day != 0)) = true then some (.rt 1) else if ((((((decide (x33.day < 0)) || (decide ((6 : Int) < x33.day))) || (decide (x33.from_ < 0))) || (decide ((1440 : Int) ≤ x33.from_))) || (decide (x33.to_ ≤ x33.from_))) || (decide ((w64 (x33.from_ + 1440)) < x33.to_))) = true then some (.rt 2) else Option.bind (α := Lp _ _) (if (decide ((0 : Int) < (k6 : Int))) = true then Option.bind (idx l (w64 ((k6 : Int) - 1))) fun x78 => Option.bind (cmp_Or_int ([(cmp_Compare_int x78.day x33.day), (cmp_Compare_int x78.from_ x33.from_), (cmp_Compare_int x78.to_ x33.to_)] : List Int)) fun x105 => if (decide ((0 : Int) ≤ x105)) = true then some (.rt 5) else some (.fin ()) else some (.fin ())) fun o69 => o69.andThen (fun y => some (.rt y)) fun s70 => some (.fin ())) fun o25 => o25.andThen (fun y => some (.rt y)) fun s26 => some (.nx ()))
  (s := ()) (s' := ()) (fun r => r ≠ 0) (fun k _ _ => (∀ (j : Nat) (s : cal_Shift), j < k → l[j]? = some s → ShOk s ∧ (week = false → s.day = 0)) ∧ ∀ (j : Nat) (p s : cal_Shift), j + 1 < k → l[j]? = some p → l[j + 1]? = some s → ShLe p s)
  ⟨fun j s h => absurd h (Nat.not_lt_zero _), fun j p s h => absurd h (Nat.not_lt_zero _)⟩ ?_
 ·rcases sim with ⟨r, e1, e2, hr⟩ | ⟨t, t', e1, e2, h1, h2⟩
  ·rw [e1, e2]
   exact ⟨r, rfl, rfl, fun h => absurd h hr⟩
  ·rw [e1, e2]
   exact ⟨0, rfl, rfl, fun _ => ⟨⟨fun j s hs => (h1 j s (List.getElem?_eq_some_iff.1 hs).1 hs).1, fun j p s hp hs => h2 j p s (List.getElem?_eq_some_iff.1 hs).1 hp hs⟩, fun hw j s hs => (h1 j s (List.getElem?_eq_some_iff.1 hs).1 hs).2 hw⟩⟩
 ·rintro k _ _ hk ⟨hI1, hI2⟩
  have hc : l[k]? = some l[k] := List.getElem?_eq_getElem hk
  rw [idx_lt _ _ hk]
  generalize l[k] = s at hc
  simp only [Option.bind_some]
  by_cases h1 : ((!week) && (s.day != 0)) = true
  ·simp only [h1, if_true, Option.bind_some, Lp.andThen_rt]
   exact .inl ⟨1, rfl, rfl, by decide⟩
  have hday : week = false → s.day = 0 := fun hw => by
   subst hw
   simpa using h1
  simp only [h1, Bool.false_eq_true, if_false]
  by_cases h2 : (0 ≤ s.day ∧ s.day ≤ 6) ∧ (0 ≤ s.from_ ∧ s.from_ ≤ 1439)
  ·have hw : w64 (s.from_ + 1440) = s.from_ + 1440 := w64_id (by omega) (by omega)
   have hw1 : w64 ((k : Int) - 1) = (k : Int) - 1 := w64_id (by omega) (by omega)
   rw [hw, hw1]
   by_cases h3 : s.from_ < s.to_ ∧ s.to_ ≤ s.from_ + 1440
   ·have e1 : ((((!(cal_within s.day 0 6)) || (!(cal_within s.from_ 0 1439))) || (decide (s.to_ ≤ s.from_))) || (decide (s.from_ + 1440 < s.to_))) = false := by simp [cal_within]; omega
    have e2 : ((((((decide (s.day < 0)) || (decide ((6 : Int) < s.day))) || (decide (s.from_ < 0))) || (decide ((1440 : Int) ≤ s.from_))) || (decide (s.to_ ≤ s.from_))) || (decide (s.from_ + 1440 < s.to_))) = false := by simp; omega
    simp only [e1, e2, Bool.false_eq_true, if_false]
    have hs : ShOk s := ⟨h2.2.1, h2.2.2, h3.1, h3.2⟩
    have new1 : ∀ (j : Nat) (s' : cal_Shift), j < k + 1 → l[j]? = some s' → ShOk s' ∧ (week = false → s'.day = 0) := fun j s' hj hs' => by
     rcases Nat.lt_or_eq_of_le (Nat.le_of_lt_succ hj) with h | rfl
     ·exact hI1 j s' h hs'
     ·rw [hc] at hs'; cases hs'; exact ⟨hs, hday⟩
    by_cases h0 : (0 : Int) < (k : Int)
    ·have hp : l[k - 1]? = some l[k - 1] := List.getElem?_eq_getElem (by omega)
     simp only [h0, decide_true, if_true]
     rw [show (k : Int) - 1 = ((k - 1 : Nat) : Int) by omega, idx_nat, hp]
     generalize l[k - 1] = p at hp
     unfold cal_after
     simp only [Option.bind_some, or_three]
     rw [compare_swap p.day, compare_swap p.from_, compare_swap p.to_]
     by_cases h4 : 0 < (if cmp_Compare_int p.day s.day ≠ 0 then -cmp_Compare_int p.day s.day else if cmp_Compare_int p.from_ s.from_ ≠ 0 then -cmp_Compare_int p.from_ s.from_ else -cmp_Compare_int p.to_ s.to_)
     ·have q1 : (if -cmp_Compare_int p.day s.day ≠ 0 then -cmp_Compare_int p.day s.day else if -cmp_Compare_int p.from_ s.from_ ≠ 0 then -cmp_Compare_int p.from_ s.from_ else -cmp_Compare_int p.to_ s.to_) > 0 := by
       split at h4 <;> split <;> (try split at h4) <;> (try split) <;> omega
      have q2 : ¬ 0 ≤ (if cmp_Compare_int p.day s.day ≠ 0 then cmp_Compare_int p.day s.day else if cmp_Compare_int p.from_ s.from_ ≠ 0 then cmp_Compare_int p.from_ s.from_ else cmp_Compare_int p.to_ s.to_) := by
       split at h4 <;> split <;> (try split at h4) <;> (try split) <;> omega
      have q1' := Int.lt_of_lt_of_le q1 (Int.le_refl _)
      simp only [gt_iff_lt] at q1
      simp only [q1, q2, decide_true, decide_false, Bool.not_true, Bool.false_eq_true, if_false, Option.bind_some, Lp.andThen_fin]
      refine .inr ⟨(), (), by simp, by simp, new1, fun j p' s' hj hp' hs' => ?_⟩
      rcases Nat.lt_or_eq_of_le (Nat.le_of_lt_succ hj) with h | h
      ·exact hI2 j p' s' h hp' hs'
      ·obtain rfl : j = k - 1 := by omega
       rw [hp] at hp'; cases hp'
       rw [show k - 1 + 1 = k by omega, hc] at hs'; cases hs'
       rw [compare_val, compare_val] at h4
       unfold ShLe
       split at h4 <;> (try split at h4) <;> (try split at h4) <;> (try split at h4) <;> (try split at h4) <;> (try split at h4) <;> omega
     ·have q1 : ¬ 0 < (if -cmp_Compare_int p.day s.day ≠ 0 then -cmp_Compare_int p.day s.day else if -cmp_Compare_int p.from_ s.from_ ≠ 0 then -cmp_Compare_int p.from_ s.from_ else -cmp_Compare_int p.to_ s.to_) := by
       split at h4 <;> split <;> (try split at h4) <;> (try split) <;> omega
      have q2 : 0 ≤ (if cmp_Compare_int p.day s.day ≠ 0 then cmp_Compare_int p.day s.day else if cmp_Compare_int p.from_ s.from_ ≠ 0 then cmp_Compare_int p.from_ s.from_ else cmp_Compare_int p.to_ s.to_) := by
       split at h4 <;> split <;> (try split at h4) <;> (try split) <;> omega
      simp only [q1, q2, decide_true, decide_false, Bool.not_false, if_true, Option.bind_some, Lp.andThen_rt]
      exact .inl ⟨5, rfl, rfl, by decide⟩
    ·simp only [h0, decide_false, Bool.false_eq_true, if_false, Option.bind_some, Lp.andThen_fin]
     exact .inr ⟨(), (), by simp, by simp, new1, fun j p' s' hj hp' hs' => by omega⟩
   ·have e1 : ((((!(cal_within s.day 0 6)) || (!(cal_within s.from_ 0 1439))) || (decide (s.to_ ≤ s.from_))) || (decide (s.from_ + 1440 < s.to_))) = true := by simp [cal_within]; omega
    have e2 : ((((((decide (s.day < 0)) || (decide ((6 : Int) < s.day))) || (decide (s.from_ < 0))) || (decide ((1440 : Int) ≤ s.from_))) || (decide (s.to_ ≤ s.from_))) || (decide (s.from_ + 1440 < s.to_))) = true := by simp; omega
    simp only [e1, e2, if_true, Option.bind_some, Lp.andThen_rt]
    exact .inl ⟨2, rfl, rfl, by decide⟩
  ·have e1 : ((!(cal_within s.day 0 6)) || (!(cal_within s.from_ 0 1439))) = true := by simp [cal_within]; omega
   have e2 : ((((decide (s.day < 0)) || (decide ((6 : Int) < s.day))) || (decide (s.from_ < 0))) || (decide ((1440 : Int) ≤ s.from_))) = true := by simp; omega
   simp only [e1, e2, Bool.true_or, if_true, Option.bind_some, Lp.andThen_rt]
   exact .inl ⟨2, rfl, rfl, by decide⟩
def SpOk (x : cal_Special) : Prop := -1 ≤ x.day ∧ x.day ≤ 2084 ∧ x.shifts.length ≤ 12 ∧ ShsOk x.shifts ∧ ∀ (j : Nat) (s : cal_Shift), x.shifts[j]? = some s → s.day = 0
structure CalOk (c : cal_Calendar) : Prop where
 zone : ZoneOk c.zone
 changes : c.zone.changes.length ≤ 60
 week : ShsOk c.week
 weeks : c.week.length ≤ 60
 specials : c.specials.length ≤ 200
 special : ∀ (j : Nat) (x : cal_Special), c.specials[j]? = some x → SpOk x
 rising : ∀ (j : Nat) (x y : cal_Special), c.specials[j]? = some x → c.specials[j + 1]? = some y → x.day < y.day
theorem zone_len {z : cal_Zone} (h : cal_CheckZone z = some 0) : z.changes.length ≤ 60 := by
 unfold cal_CheckZone at h
 by_cases h1 : (!(cal_within z.offset (-1440) 1440)) = true
 ·simp [h1] at h
 ·by_cases h2 : (60 : Int) < (z.changes.length : Int)
  ·simp [h1, h2] at h
  ·omega
theorem cal_eq (c : cal_Calendar) : ∃ r, cal_CheckCalendar c = some r ∧ portref2_CalendarFault c = some r ∧ (r = 0 → CalOk c) := by
 obtain ⟨r1, a1, b1, c1⟩ := zone_eq c.zone
 unfold cal_CheckCalendar portref2_CalendarFault
 simp only [a1, b1, Option.bind_some]
 by_cases h1 : r1 = 0
 rotate_left
 ·have : (r1 != 0) = true := by simpa using h1
  simp only [this, if_true]
  exact ⟨r1, rfl, rfl, fun h => absurd h h1⟩
 subst h1
 simp only [bne_self_eq_false, Bool.false_eq_true, if_false]
 by_cases h2 : ((decide ((60 : Int) < (c.week.length : Int))) || (decide ((200 : Int) < (c.specials.length : Int)))) = true
 ·simp only [h2, if_true]
  exact ⟨4, rfl, rfl, fun h => absurd h (by decide)⟩
 have hl : c.week.length ≤ 60 ∧ c.specials.length ≤ 200 := by simp at h2; omega
 simp only [h2, Bool.false_eq_true, if_false]
 obtain ⟨r2, a2, b2, c2⟩ := shifts_eq c.week true hl.1
 rw [Bool.not_true] at a2
 simp only [a2, b2, Option.bind_some]
 by_cases h3 : r2 = 0
 rotate_left
 ·have : (r2 != 0) = true := by simpa using h3
  simp only [this, if_true]
  exact ⟨r2, rfl, rfl, fun h => absurd h h3⟩
 subst h3
 simp only [bne_self_eq_false, Bool.false_eq_true, if_false]
 have sim := rangeB_sim (R := Int) c.specials.length
  (b := fun k50 (_ : Unit) => Option.bind (idx c.specials (k50 : Int)) fun x69 => if (!(cal_within x69.day (-1) 2084)) = true then some (.rt 2) else Option.bind (if (decide ((0 : Int) < (k50 : Int))) = true then (Option.bind (idx c.specials (w64 ((k50 : Int) - 1))) fun x96 => some (decide (x69.day ≤ x96.day))) else (some false)) fun s90 => if s90 = true then some (.rt 5) else if (decide ((12 : Int) < (x69.shifts.length : Int))) = true then some (.rt 4) else Option.bind (cal_checkShifts x69.shifts true) fun x114 => if (x114 != 0) = true then some (.rt x114) else some (.nx ()))
  (b' := fun k50 (_ : Unit) => Option.bind (idx c.specials (k50 : Int)) fun x69 => if ((decide (x69.day < (-1))) || (decide ((2084 : Int) < x69.day))) = true then some (.rt 2) else Option.bind (if (decide ((0 : Int) < (k50 : Int))) = true then (Option.bind (idx c.specials (w64 ((k50 : Int) - 1))) fun x99 => some (decide (x69.day ≤ x99.day))) else (some false)) fun s93 => if s93 = true then some (.rt 5) else if (decide ((12 : Int) < (x69.shifts.length : Int))) = true then some (.rt 4) else Option.bind (portref2_shiftFault x69.shifts false) fun x117 => if (x117 != 0) = true then some (.rt x117) else some (.nx ()))
  (s := ()) (s' := ()) (fun r => r ≠ 0) (fun k _ _ => (∀ (j : Nat) (x : cal_Special), j < k → c.specials[j]? = some x → SpOk x) ∧ ∀ (j : Nat) (x y : cal_Special), j + 1 < k → c.specials[j]? = some x → c.specials[j + 1]? = some y → x.day < y.day)
  ⟨fun j s h => absurd h (Nat.not_lt_zero _), fun j p s h => absurd h (Nat.not_lt_zero _)⟩ ?_
 ·rcases sim with ⟨r, e1, e2, hr⟩ | ⟨t, t', e1, e2, q1, q2⟩
  ·rw [e1, e2]
   exact ⟨r, rfl, rfl, fun h => absurd h hr⟩
  ·rw [e1, e2]
   exact ⟨0, rfl, rfl, fun _ => ⟨c1 rfl, zone_len a1, (c2 rfl).1, hl.1, hl.2, fun j x hx => q1 j x (List.getElem?_eq_some_iff.1 hx).1 hx, fun j x y hx hy => q2 j x y (List.getElem?_eq_some_iff.1 hy).1 hx hy⟩⟩
 ·rintro k _ _ hk ⟨hI1, hI2⟩
  have hc : c.specials[k]? = some c.specials[k] := List.getElem?_eq_getElem hk
  rw [idx_lt _ _ hk]
  generalize c.specials[k] = x at hc
  have hw1 : w64 ((k : Int) - 1) = (k : Int) - 1 := w64_id (by omega) (by omega)
  have eday : (!(cal_within x.day (-1) 2084)) = ((decide (x.day < (-1))) || (decide ((2084 : Int) < x.day))) := by
   rw [Bool.eq_iff_iff]; simp [cal_within]
  simp only [Option.bind_some, hw1, eday]
  by_cases h4 : ((decide (x.day < (-1))) || (decide ((2084 : Int) < x.day))) = true
  ·simp only [h4, if_true]
   exact .inl ⟨2, rfl, rfl, by decide⟩
  have hd : -1 ≤ x.day ∧ x.day ≤ 2084 := by simp at h4; omega
  simp only [h4, Bool.false_eq_true, if_false]
  have same : ∃ b : Bool, (if (decide ((0 : Int) < (k : Int))) = true then (Option.bind (idx c.specials ((k : Int) - 1)) fun x96 => some (decide (x.day ≤ x96.day))) else (some false)) = some b ∧ (b = false → ∀ y, 0 < k → c.specials[k - 1]? = some y → y.day < x.day) := by
   by_cases h0 : (0 : Int) < (k : Int)
   ·have hp : c.specials[k - 1]? = some c.specials[k - 1] := List.getElem?_eq_getElem (by omega)
    simp only [h0, decide_true, if_true]
    rw [show (k : Int) - 1 = ((k - 1 : Nat) : Int) by omega, idx_nat, hp]
    refine ⟨_, rfl, fun hb y _ hy => ?_⟩
    cases hy
    simpa using hb
   ·simp only [h0, decide_false, Bool.false_eq_true, if_false]
    exact ⟨_, rfl, fun _ y h => by omega⟩
  obtain ⟨b, hb, hb2⟩ := same
  rw [hb]
  simp only [Option.bind_some]
  cases b with
  | true => exact .inl ⟨5, rfl, rfl, by decide⟩
  | false =>
   simp only [Bool.false_eq_true, if_false]
   by_cases h5 : (12 : Int) < (x.shifts.length : Int)
   ·simp only [h5, decide_true, if_true]
    exact .inl ⟨4, rfl, rfl, by decide⟩
   simp only [h5, decide_false, Bool.false_eq_true, if_false]
   obtain ⟨r3, a3, b3, c3⟩ := shifts_eq x.shifts false (by omega)
   rw [Bool.not_false] at a3
   simp only [a3, b3, Option.bind_some]
   by_cases h6 : r3 = 0
   rotate_left
   ·have : (r3 != 0) = true := by simpa using h6
    simp only [this, if_true]
    exact .inl ⟨r3, rfl, rfl, h6⟩
   subst h6
   simp only [bne_self_eq_false, Bool.false_eq_true, if_false]
   have hx : SpOk x := ⟨hd.1, hd.2, by omega, (c3 rfl).1, (c3 rfl).2 rfl⟩
   refine .inr ⟨(), (), by simp, by simp, fun j y hj hy => ?_, fun j y z hj hy hz => ?_⟩
   ·rcases Nat.lt_or_eq_of_le (Nat.le_of_lt_succ hj) with h | rfl
    ·exact hI1 j y h hy
    ·rw [hc] at hy; cases hy; exact hx
   ·rcases Nat.lt_or_eq_of_le (Nat.le_of_lt_succ hj) with h | h
    ·exact hI2 j y z h hy hz
    ·obtain rfl : j = k - 1 := by omega
     rw [show k - 1 + 1 = k by omega, hc] at hz; cases hz
     exact hb2 rfl y (by omega) hy
end Go.Proofs.YtfbnaobiondblaaGreatDoor.M
namespace Go.Proofs.YtfbnaobiondblaaGreatDoor.M
open Go Go.Pu
set_option linter.unusedSimpArgs false
set_option linter.unusedVariables false
theorem chain_pairwise {α : Type} {R : α → α → Prop} (tr : ∀ a b c, R a b → R b c → R a c) : ∀ (l : List α), (∀ (j : Nat) (p s : α), l[j]? = some p → l[j + 1]? = some s → R p s) → l.Pairwise R
 | [], _ => .nil
 | [a], _ => by simp
 | a :: b :: l, h =>
  have ih := chain_pairwise tr (b :: l) fun j p s hp hs => h (j + 1) p s (by simpa using hp) (by simpa using hs)
  List.pairwise_cons.2 ⟨fun s hs => by
   have hab := h 0 a b rfl rfl
   rcases List.mem_cons.1 hs with rfl | hs
   ·exact hab
   ·exact tr _ _ _ hab ((List.pairwise_cons.1 ih).1 s hs), ih⟩
theorem floor7 (a : Int) (h : -4000000000 ≤ a) (h' : a ≤ 4000000000) : cal_floor a 7 = some (a / 7) := by
 have hd := tdiv_spec a 7 (by decide)
 have hq : quo a 7 = some (a.tdiv 7) := by rw [quo, if_neg (by decide), w64_id (by omega) (by omega)]
 have hr : rem a 7 = some (a.tmod 7) := by rw [rem, if_neg (by decide)]
 unfold cal_floor
 simp only [hq, hr, Option.bind_some]
 by_cases hn : a.tmod 7 < 0
 ·simp only [hn, decide_true, if_true, Option.bind_some]
  rw [w64_id (by omega) (by omega)]
  congr 1
  omega
 ·simp only [hn, decide_false, Bool.false_eq_true, if_false, Option.bind_some]
  congr 1
  omega
theorem floor1440 (a : Int) (h : -4000000000 ≤ a) (h' : a ≤ 4000000000) : cal_floor a 1440 = some (a / 1440) := by
 have hd := tdiv_spec a 1440 (by decide)
 have hq : quo a 1440 = some (a.tdiv 1440) := by rw [quo, if_neg (by decide), w64_id (by omega) (by omega)]
 have hr : rem a 1440 = some (a.tmod 1440) := by rw [rem, if_neg (by decide)]
 unfold cal_floor
 simp only [hq, hr, Option.bind_some]
 by_cases hn : a.tmod 1440 < 0
 ·simp only [hn, decide_true, if_true, Option.bind_some]
  rw [w64_id (by omega) (by omega)]
  congr 1
  omega
 ·simp only [hn, decide_false, Bool.false_eq_true, if_false, Option.bind_some]
  congr 1
  omega
theorem floorDiv7 (a : Int) (h : -4000000000 ≤ a) (h' : a ≤ 4000000000) : portref2_floorDiv a 7 = some (a / 7, a % 7) := by
 have hd := tdiv_spec a 7 (by decide)
 have hq : quo a 7 = some (a.tdiv 7) := by rw [quo, if_neg (by decide), w64_id (by omega) (by omega)]
 have hr : rem a 7 = some (a.tmod 7) := by rw [rem, if_neg (by decide)]
 unfold portref2_floorDiv
 simp only [hq, hr, Option.bind_some]
 by_cases hn : a.tmod 7 < 0
 ·simp only [hn, decide_true, if_true, Option.bind_some]
  rw [w64_id (by omega) (by omega), w64_id (by omega) (by omega)]
  congr 2 <;> omega
 ·simp only [hn, decide_false, Bool.false_eq_true, if_false, Option.bind_some]
  congr 2 <;> omega
theorem floorDiv1440 (a : Int) (h : -4000000000 ≤ a) (h' : a ≤ 4000000000) : portref2_floorDiv a 1440 = some (a / 1440, a % 1440) := by
 have hd := tdiv_spec a 1440 (by decide)
 have hq : quo a 1440 = some (a.tdiv 1440) := by rw [quo, if_neg (by decide), w64_id (by omega) (by omega)]
 have hr : rem a 1440 = some (a.tmod 1440) := by rw [rem, if_neg (by decide)]
 unfold portref2_floorDiv
 simp only [hq, hr, Option.bind_some]
 by_cases hn : a.tmod 1440 < 0
 ·simp only [hn, decide_true, if_true, Option.bind_some]
  rw [w64_id (by omega) (by omega), w64_id (by omega) (by omega)]
  congr 2 <;> omega
 ·simp only [hn, decide_false, Bool.false_eq_true, if_false, Option.bind_some]
  congr 2 <;> omega
def daySh (c : cal_Calendar) (day : Int) : List cal_Shift :=
 match c.specials.find? (fun x => x.day == day) with
 | some x => x.shifts
 | none => (c.week.filter fun s => s.day == day % 7).map fun s => ⟨0, s.from_, s.to_⟩
theorem shLe_trans (a b c : cal_Shift) (h1 : ShLe a b) (h2 : ShLe b c) : ShLe a c := by
 unfold ShLe at *
 omega
theorem shs_sorted {l : List cal_Shift} (h : ShsOk l) : l.Pairwise ShLe := chain_pairwise shLe_trans l h.2
theorem daySh_ok {c : cal_Calendar} (hc : CalOk c) (day : Int) : (∀ s ∈ daySh c day, ShOk s) ∧ (daySh c day).Pairwise (fun p s => p.from_ ≤ s.from_) ∧ (daySh c day).length ≤ 60 := by
 unfold daySh
 cases hf : c.specials.find? (fun x => x.day == day) with
 | some x =>
  simp only
  have hm := List.mem_of_find?_eq_some hf
  obtain ⟨j, hj⟩ := List.mem_iff_getElem?.1 hm
  obtain ⟨_, _, h3, h4, h5⟩ := hc.special j x hj
  refine ⟨fun s hs => ?_, ?_, by omega⟩
  ·obtain ⟨i, hi⟩ := List.mem_iff_getElem?.1 hs
   exact h4.1 i s hi
  ·refine (List.Pairwise.imp_of_mem ?_ (shs_sorted h4))
   intro a b ha hb hab
   obtain ⟨i, hi⟩ := List.mem_iff_getElem?.1 ha
   obtain ⟨k, hk⟩ := List.mem_iff_getElem?.1 hb
   have e1 := h5 i a hi
   have e2 := h5 k b hk
   unfold ShLe at hab
   omega
 | none =>
  simp only
  refine ⟨fun s hs => ?_, ?_, ?_⟩
  ·obtain ⟨x, hx, rfl⟩ := List.mem_map.1 hs
   obtain ⟨i, hi⟩ := List.mem_iff_getElem?.1 (List.mem_filter.1 hx).1
   exact hc.week.1 i x hi
  ·refine List.pairwise_map.2 ?_
   refine List.Pairwise.imp_of_mem ?_ ((shs_sorted hc.week).filter _)
   intro a b ha hb hab
   have e1 := (List.mem_filter.1 ha).2
   have e2 := (List.mem_filter.1 hb).2
   simp only [beq_iff_eq] at e1 e2
   unfold ShLe at hab
   show a.from_ ≤ b.from_
   omega
  ·rw [List.length_map]
   exact Nat.le_trans (List.length_filter_le _ _) hc.weeks
theorem forL_find {α R : Type} (p : α → Bool) (f : α → R) (l : List α) (k : Nat) :
  forL (fun _ x (_ : Unit) => if p x = true then some (.rt (f x)) else some (.nx ())) l k () = some ((l.find? p).elim (.fin ()) fun x => .rt (f x)) := by
 induction l generalizing k with
 | nil => rfl
 | cons x l ih =>
  rw [forL, List.find?_cons]
  cases hp : p x
  ·simp [ih]
  ·simp
theorem week_loop {R : Type} (l : List cal_Shift) (h60 : l.length ≤ 60) (day wd : Int) (body : Nat → List cal_Shift → Option (Ctl (List cal_Shift) R))
  (hb : ∀ k s x, l[k]? = some x → body k s = Option.bind (Option.bind (if (x.day == wd) = true then Option.bind (appendL 5864062014805 s ([(⟨0, x.from_, x.to_⟩ : cal_Shift)] : List cal_Shift)) fun x143 => some x143 else some s) fun s126 => some s126) fun s102 => some (.nx s102)) :
  rangeB body l.length 0 [] = some (.fin ((l.filter fun s => s.day == wd).map fun s => ⟨0, s.from_, s.to_⟩)) := by
 obtain ⟨t, h, rfl⟩ := rangeB_inv (b := body) l.length (fun k s => s = ((l.take k).filter fun s => s.day == wd).map fun s => ⟨0, s.from_, s.to_⟩) (s := []) (by simp) (by
  rintro k _ hk rfl
  have hc : l[k]? = some l[k] := List.getElem?_eq_getElem hk
  rw [hb k _ _ hc]
  generalize l[k] = x at hc
  have hlen : (((l.take k).filter fun s => s.day == wd).map fun s => (⟨0, s.from_, s.to_⟩ : cal_Shift)).length ≤ 60 := by
   rw [List.length_map]
   refine Nat.le_trans (List.length_filter_le _ _) ?_
   rw [List.length_take]
   omega
  rw [List.take_add_one, hc, List.filter_append, List.map_append]
  generalize (((l.take k).filter fun s => s.day == wd).map fun s => (⟨0, s.from_, s.to_⟩ : cal_Shift)) = acc at hlen
  by_cases hw : (x.day == wd) = true
  ·rw [if_pos hw, appendL, if_pos (by simp; omega)]
   exact ⟨_, rfl, by simp [hw]⟩
  ·rw [if_neg hw]
   exact ⟨_, rfl, by simp [hw]⟩)
 rw [h, List.take_of_length_le (Nat.le_refl _)]
theorem shiftsIn_val {c : cal_Calendar} (hc : CalOk c) (day : Int) (h : -100000 ≤ day) (h' : day ≤ 100000) : portref2_ShiftsIn c day = some (daySh c day) := by
 unfold portref2_ShiftsIn
 have e : rangeB (R := List cal_Shift) (fun k21 (_ : Unit) => Option.bind (idx c.specials (k21 : Int)) fun x40 => if (x40.day == day) = true then some (.rt x40.shifts) else some (.nx ())) c.specials.length 0 () = some ((c.specials.find? (fun x => x.day == day)).elim (.fin ()) fun x => .rt x.shifts) := by
  refine (rangeB_forL c.specials (fun _ (x : cal_Special) (_ : Unit) => if (x.day == day) = true then some (.rt x.shifts) else some (.nx ())) _ ?_ ()).trans (forL_find (fun x : cal_Special => x.day == day) (fun x => x.shifts) c.specials 0)
  intro k s x hx
  simp [idx_nat, hx]
 rw [e]
 unfold daySh
 cases hf : c.specials.find? (fun x => x.day == day) with
 | some x => rfl
 | none =>
  simp only [Option.elim_none, Option.bind_some, Lp.andThen_fin, floorDiv7 day (by omega) (by omega)]
  rw [week_loop c.week hc.weeks day (day % 7) _ (by
   intro k s x hx
   simp only [idx_nat, hx, Option.bind_some])]
  rfl
theorem mid_val (n : Nat) (hn : n ≤ 1000) : Option.bind (shr .u64 (IntKind.wrap .u64 (w64 (n : Int))) 1) (fun x => some (IntKind.wrap .i64 x)) = some ((n / 2 : Nat) : Int) := by
 have h1 : w64 (n : Int) = (n : Int) := w64_id (by omega) (by omega)
 have h2 : IntKind.wrap .u64 (n : Int) = (n : Int) := by
  simp only [IntKind.wrap, IntKind.bits, IntKind.signed]
  simp
  omega
 have h3 : IntKind.wrap .i64 ((n : Int).fdiv 2) = ((n / 2 : Nat) : Int) := by
  have : (n : Int).fdiv 2 = ((n / 2 : Nat) : Int) := by
   rw [Int.fdiv_eq_ediv_of_nonneg _ (by decide)]
   omega
  rw [this]
  exact w64_id (by omega) (by omega)
 rw [h1, h2, shr, if_neg (by decide)]
 have e : (2 : Int) ^ (min (1 : Int).toNat IntKind.u64.bits) = 2 := by decide
 rw [e]
 simp only [Option.bind_some, h3]
theorem search_val {l : List cal_Special} (hl : l.length ≤ 200) (hs : l.Pairwise fun x y => x.day < y.day) (day : Int) :
  ∃ a : Nat, a ≤ l.length ∧ slices_BinarySearchFunc_Lcal_Special_cal_Special_int l day (fun y18 y19 => cal_Calendar_shiftsOf_1 y18 y19) = some ((a : Int), decide (∃ x, l[a]? = some x ∧ x.day = day)) ∧ (∀ q x, q < a → l[q]? = some x → x.day < day) ∧ ∀ q x, a ≤ q → l[q]? = some x → day ≤ x.day := by
 have hp : ∀ (p q : Nat) (x y : cal_Special), p < q → l[p]? = some x → l[q]? = some y → x.day < y.day := fun p q x y hpq hx hy => by
  obtain ⟨h1, rfl⟩ := List.getElem?_eq_some_iff.1 hx
  obtain ⟨h2, rfl⟩ := List.getElem?_eq_some_iff.1 hy
  exact List.pairwise_iff_getElem.1 hs p q h1 h2 hpq
 unfold slices_BinarySearchFunc_Lcal_Special_cal_Special_int
 obtain ⟨o, ho, a, rfl, ha, hlo, hhi⟩ := whileB_spec (R := Int × Bool) (body := fun s12 : Int × Int => if (decide (s12.1 < s12.2)) = true then Option.bind (Option.bind (shr .u64 (IntKind.wrap .u64 (w64 (s12.1 + s12.2))) 1) fun x32 => Option.bind (idx l (IntKind.wrap .i64 x32)) fun x33 => Option.bind (cal_Calendar_shiftsOf_1 x33 day) fun x40 => Option.bind (if (decide (x40 < 0)) = true then some (w64 ((IntKind.wrap .i64 x32) + 1), s12.2) else some (s12.1, IntKind.wrap .i64 x32)) fun s45 => some (s45.1, s45.2)) fun s25 => some (.nx (s25.1, s25.2)) else some (.bk (s12.1, s12.2)))
  (fun s => ∃ a b : Nat, s = ((a : Int), (b : Int)) ∧ a ≤ b ∧ b ≤ l.length ∧ (∀ q x, q < a → l[q]? = some x → x.day < day) ∧ ∀ q x, b ≤ q → l[q]? = some x → day ≤ x.day) (fun s => (s.2 - s.1).toNat)
  (fun o => ∃ a : Nat, o = .fin ((a : Int), (a : Int)) ∧ a ≤ l.length ∧ (∀ q x, q < a → l[q]? = some x → x.day < day) ∧ ∀ q x, a ≤ q → l[q]? = some x → day ≤ x.day) (s := (0, (l.length : Int)))
  ⟨0, l.length, rfl, Nat.zero_le _, Nat.le_refl _, fun q x h => absurd h (Nat.not_lt_zero _), fun q x h hx => absurd (List.getElem?_eq_some_iff.1 hx).1 (by omega)⟩ (by
  rintro _ ⟨a, b, rfl, hab, hb, h1, h2⟩
  simp only
  by_cases hlt : (a : Int) < (b : Int)
  ·have hm := mid_val (a + b) (by omega)
   cases hsh : shr .u64 (IntKind.wrap .u64 (w64 ((a : Int) + (b : Int)))) 1 with
   | none => rw [show ((a + b : Nat) : Int) = (a : Int) + (b : Int) by omega, hsh] at hm; simp at hm
   | some v =>
    rw [show ((a + b : Nat) : Int) = (a : Int) + (b : Int) by omega, hsh] at hm
    simp only [Option.bind_some, Option.some.injEq] at hm
    have hmb : (a + b) / 2 < l.length := by omega
    have hx : l[(a + b) / 2]? = some l[(a + b) / 2] := List.getElem?_eq_getElem hmb
    generalize l[(a + b) / 2] = x at hx
    simp only [hlt, decide_true, if_true, Option.bind_some, hm, idx_nat, hx, cal_Calendar_shiftsOf_1, compare_val]
    by_cases hd : x.day < day
    ·simp only [hd, if_true, show (-1 : Int) < 0 by decide, decide_true, Option.bind_some]
     rw [w64_id (by omega) (by omega)]
     refine ⟨_, rfl, ⟨(a + b) / 2 + 1, b, by congr 1, by omega, hb, fun q y hq hy => ?_, h2⟩, by simp only; omega⟩
     rcases Nat.lt_or_eq_of_le (Nat.le_of_lt_succ hq) with h | rfl
     ·have := hp q _ y x h hy hx; omega
     ·rw [hx] at hy; cases hy; exact hd
    ·have hn : ¬ (if x.day < day then (-1 : Int) else if day < x.day then 1 else 0) < 0 := by
      rw [if_neg hd]; split <;> omega
     simp only [hn, decide_false, Bool.false_eq_true, if_false, Option.bind_some]
     refine ⟨_, rfl, ⟨a, (a + b) / 2, rfl, by omega, by omega, h1, fun q y hq hy => ?_⟩, by simp only; omega⟩
     rcases Nat.lt_or_eq_of_le hq with h | rfl
     ·have := hp _ q x y h hx hy; omega
     ·rw [hx] at hy; cases hy; omega
  ·simp only [hlt, decide_false, Bool.false_eq_true, if_false]
   obtain rfl : a = b := by omega
   exact ⟨_, rfl, a, rfl, hb, h1, h2⟩)
 rw [ho]
 refine ⟨a, ha, ?_, hlo, hhi⟩
 simp only [Option.bind_some, Lp.andThen_fin]
 by_cases hal : (a : Int) < (l.length : Int)
 ·have hx : l[a]? = some l[a] := List.getElem?_eq_getElem (by omega)
  generalize l[a] = x at hx
  simp only [hal, decide_true, if_true, idx_nat, hx, Option.bind_some, cal_Calendar_shiftsOf_1, compare_val]
  congr 2
  rw [Bool.eq_iff_iff]
  simp only [beq_iff_eq, decide_eq_true_eq, Option.some.injEq, exists_eq_left']
  split
  ·omega
  ·split <;> omega
 ·simp only [hal, decide_false, Bool.false_eq_true, if_false, Option.bind_some]
  congr 2
  have : l[a]? = none := List.getElem?_eq_none (by omega)
  simp [this]
theorem shiftsOf_val {c : cal_Calendar} (hc : CalOk c) (day : Int) (h : -100000 ≤ day) (h' : day ≤ 100000) : cal_Calendar_shiftsOf c day = some (daySh c day) := by
 unfold cal_Calendar_shiftsOf
 have hs : c.specials.Pairwise fun x y => x.day < y.day := chain_pairwise (R := fun x y : cal_Special => x.day < y.day) (fun a b c h1 h2 => Int.lt_trans h1 h2) _ hc.rising
 obtain ⟨a, ha, e, hlo, hhi⟩ := search_val hc.specials hs day
 rw [e]
 simp only [Option.bind_some]
 unfold daySh
 by_cases hx : ∃ x, c.specials[a]? = some x ∧ x.day = day
 ·simp only [hx, decide_true, if_true]
  obtain ⟨x, hx1, hx2⟩ := hx
  have hf : c.specials.find? (fun x => x.day == day) = some x := by
   obtain ⟨h1, h2⟩ := List.getElem?_eq_some_iff.1 hx1
   refine List.find?_eq_some_iff_getElem.2 ⟨by simpa using hx2, a, h1, h2, fun j hj => ?_⟩
   have := hlo j _ hj (List.getElem?_eq_getElem (by omega))
   simp
   omega
  rw [hf, idx_nat, hx1]
  obtain ⟨_, _, h3, _, _⟩ := hc.special a x hx1
  unfold slices_Clone_Lcal_Shift_cal_Shift
  simp only [Option.bind_some]
  rw [appendL, if_pos (by simp; omega)]
  rfl
 ·simp only [hx, decide_false, Bool.false_eq_true, if_false]
  have hf : c.specials.find? (fun x => x.day == day) = none := by
   refine List.find?_eq_none.2 fun x hm => ?_
   obtain ⟨q, hq⟩ := List.mem_iff_getElem?.1 hm
   intro hd
   simp only [beq_iff_eq] at hd
   rcases Nat.lt_or_ge q a with h1 | h1
   ·have := hlo q x h1 hq; omega
   ·rcases Nat.lt_or_eq_of_le h1 with h2 | rfl
    ·obtain ⟨h3, h4⟩ := List.getElem?_eq_some_iff.1 hq
     have hxa : c.specials[a]? = some c.specials[a] := List.getElem?_eq_getElem (by omega)
     have := List.pairwise_iff_getElem.1 hs a q (by omega) h3 h2
     have h5 := hhi a _ (Nat.le_refl _) hxa
     rw [h4] at this
     omega
    ·exact hx ⟨x, hq, hd⟩
  rw [hf]
  simp only
  rw [week_loop c.week hc.weeks day (day % 7) _ (by
   intro k s x hx
   simp only [idx_nat, hx, Option.bind_some, floor7 day (by omega) (by omega)]
   rw [w64_id (n := 7 * (day / 7)) (by omega) (by omega), w64_id (by omega) (by omega), show day - 7 * (day / 7) = day % 7 by omega])]
  rfl
def Opn (c : cal_Calendar) (m : Int) : Prop := ∃ day s, s ∈ daySh c day ∧ day * 1440 + s.from_ ≤ m + off c.zone m ∧ m + off c.zone m < day * 1440 + s.to_
theorem clock_open {c : cal_Calendar} (hc : CalOk c) (m : Int) (h0 : 0 ≤ m) (h1 : m ≤ 3000000) : ∃ b, portref2_Clock_Open c m = some b ∧ (b = true ↔ Opn c m) := by
 have hb := off_bound hc.zone m
 unfold portref2_Clock_Open portref2_LocalIn portref2_Clock_shifts
 simp only [offsetIn_val, Option.bind_some]
 rw [w64_id (n := m + off c.zone m) (by omega) (by omega), floorDiv1440 _ (by omega) (by omega)]
 simp only [Option.bind_some]
 rw [w64_id (n := (m + off c.zone m) / 1440 - 1) (by omega) (by omega), w64_id (n := (m + off c.zone m) % 1440 + 1440) (by omega) (by omega)]
 rw [shiftsIn_val hc _ (by omega) (by omega), shiftsIn_val hc _ (by omega) (by omega)]
 simp only [Option.bind_some]
 have key : Opn c m ↔ (daySh c ((m + off c.zone m) / 1440)).any (fun x => decide (x.from_ ≤ (m + off c.zone m) % 1440) && decide ((m + off c.zone m) % 1440 < x.to_)) = true ∨ (daySh c ((m + off c.zone m) / 1440 - 1)).any (fun x => decide (x.from_ ≤ (m + off c.zone m) % 1440 + 1440) && decide ((m + off c.zone m) % 1440 + 1440 < x.to_)) = true := by
  simp only [List.any_eq_true, Bool.and_eq_true, decide_eq_true_eq]
  generalize hL : m + off c.zone m = L
  constructor
  ·rintro ⟨day, s, hs, q1, q2⟩
   rw [hL] at q1 q2
   obtain ⟨o1, o2, o3, o4⟩ := (daySh_ok hc day).1 s hs
   by_cases hd : day = L / 1440
   ·subst hd
    exact .inl ⟨s, hs, by omega, by omega⟩
   ·have : day = L / 1440 - 1 := by omega
    subst this
    exact .inr ⟨s, hs, by omega, by omega⟩
  ·rintro (⟨s, hs, q1, q2⟩ | ⟨s, hs, q1, q2⟩)
   ·exact ⟨_, s, hs, by omega, by omega⟩
   ·exact ⟨_, s, hs, by omega, by omega⟩
 rw [rangeB_any (daySh c ((m + off c.zone m) / 1440)) (fun x => decide (x.from_ ≤ (m + off c.zone m) % 1440) && decide ((m + off c.zone m) % 1440 < x.to_)) true]
 rw [rangeB_any (daySh c ((m + off c.zone m) / 1440 - 1)) (fun x => decide (x.from_ ≤ (m + off c.zone m) % 1440 + 1440) && decide ((m + off c.zone m) % 1440 + 1440 < x.to_)) true]
 rw [key]
 generalize (daySh c ((m + off c.zone m) / 1440)).any _ = b1
 generalize (daySh c ((m + off c.zone m) / 1440 - 1)).any _ = b2
 cases b1 <;> cases b2 <;> simp [Lp.andThen]
end Go.Proofs.YtfbnaobiondblaaGreatDoor.M
namespace Go.Proofs.YtfbnaobiondblaaGreatDoor.M
open Go Go.Pu
set_option linter.unusedSimpArgs false
set_option linter.unusedVariables false
def prt (z : cal_Zone) (k : Nat) : cal_part := ⟨fr z k, fr z (k + 1), ofs z k⟩
theorem parts_val (z : cal_Zone) (h60 : z.changes.length ≤ 60) : cal_Zone_parts z = some ((List.range (z.changes.length + 1)).map (prt z)) := by
 unfold cal_Zone_parts
 obtain ⟨t, h, rfl⟩ := rangeB_inv (R := List cal_part) (b := fun k24 s32 => Option.bind (idx z.changes (k24 : Int)) fun x47 => Option.bind (idx s32 (w64 ((s32.length : Int) - 1))) fun x61 => Option.bind (setI s32 (w64 ((s32.length : Int) - 1)) ({ (x61 : cal_part) with to_ := x47.at_ })) fun x67 => Option.bind (appendL 5864062014805 x67 ([(⟨x47.at_, 3000001, x47.offset⟩ : cal_part)] : List cal_part)) fun x78 => some (.nx x78)) z.changes.length
  (fun k s => s = (List.range k).map (prt z) ++ [⟨fr z k, 3000001, ofs z k⟩]) (s := [(⟨0, 3000001, z.offset⟩ : cal_part)]) rfl (by
   rintro k _ hk rfl
   have hc : z.changes[k]? = some z.changes[k] := List.getElem?_eq_getElem hk
   rw [idx_lt _ _ hk]
   generalize z.changes[k] = c at hc
   have hlen : (((List.range k).map (prt z) ++ [(⟨fr z k, 3000001, ofs z k⟩ : cal_part)]).length : Int) - 1 = (k : Int) := by simp
   have hw : w64 ((((List.range k).map (prt z) ++ [(⟨fr z k, 3000001, ofs z k⟩ : cal_part)]).length : Int) - 1) = (k : Int) := by rw [hlen]; exact w64_id (by omega) (by omega)
   rw [hw, idx_nat]
   have hg : ((List.range k).map (prt z) ++ [(⟨fr z k, 3000001, ofs z k⟩ : cal_part)])[k]? = some ⟨fr z k, 3000001, ofs z k⟩ := by
    rw [List.getElem?_append_right (by simp)]
    simp
   rw [hg]
   have hs : setI ((List.range k).map (prt z) ++ [(⟨fr z k, 3000001, ofs z k⟩ : cal_part)]) (k : Int) (⟨fr z k, c.at_, ofs z k⟩ : cal_part) = some ((List.range k).map (prt z) ++ [(⟨fr z k, c.at_, ofs z k⟩ : cal_part)]) := by
    rw [setI, if_pos ⟨by omega, by simp⟩]
    congr 1
    rw [Int.toNat_natCast, List.set_append_right _ _ (by simp)]
    simp
   simp only [Option.bind_some, hs]
   have ha : appendL 5864062014805 ((List.range k).map (prt z) ++ [(⟨fr z k, c.at_, ofs z k⟩ : cal_part)]) [(⟨c.at_, 3000001, c.offset⟩ : cal_part)] = some (((List.range k).map (prt z) ++ [(⟨fr z k, c.at_, ofs z k⟩ : cal_part)]) ++ [(⟨c.at_, 3000001, c.offset⟩ : cal_part)]) := by
    rw [appendL, if_pos (by simp; omega)]
   rw [ha]
   refine ⟨_, rfl, ?_⟩
   have e1 : fr z (k + 1) = c.at_ := by rw [fr, hc]
   have e2 : ofs z (k + 1) = c.offset := by rw [ofs, hc]
   rw [List.range_succ, List.map_append, e1, e2]
   simp [prt, e1])
 rw [h]
 simp only [Option.bind_some, Lp.andThen_fin]
 congr 1
 rw [List.range_succ, List.map_append]
 simp [prt, fr_last]
def iterB {X S : Type} (y : X → S → Option (Bool × S)) : List X → S → Option (Bool × S)
 | [], s => some (true, s)
 | x :: l, s => Option.bind (y x s) fun r => if r.1 = true then iterB y l r.2 else some (false, r.2)
theorem iterB_append {X S : Type} (y : X → S → Option (Bool × S)) (l m : List X) (s : S) : iterB y (l ++ m) s = Option.bind (iterB y l s) fun r => if r.1 = true then iterB y m r.2 else some (false, r.2) := by
 induction l generalizing s with
 | nil => simp [iterB]
 | cons x l ih =>
  rw [List.cons_append, iterB, iterB]
  cases y x s with
  | none => rfl
  | some r =>
   simp only [Option.bind_some]
   by_cases h : r.1 = true
   ·rw [if_pos h, if_pos h, ih]
   ·rw [if_neg h, if_neg h]; simp
theorem whileB_eq {S R : Type} (body : S → Option (Ctl S R)) (s : S) : whileB body s = Option.bind (body s) fun x => match x with
  | .nx s' => whileB body s'
  | .bk s' => some (.fin s')
  | .rt r => some (.rt r) := by
 ext r
 rw [whileB_iff]
 constructor
 ·rintro ⟨n, hn⟩
  cases n with
  | zero => simp [whileN] at hn
  | succ n =>
   rw [whileN] at hn
   cases hb : body s with
   | none => rw [hb] at hn; cases hn
   | some x =>
    rw [hb] at hn
    cases x with
    | nx s' => exact whileB_iff.2 ⟨n, hn⟩
    | bk s' => exact hn
    | rt r => exact hn
 ·intro h
  cases hb : body s with
  | none => rw [hb] at h; cases h
  | some x =>
   rw [hb] at h
   cases x with
   | nx s' =>
    obtain ⟨n, hn⟩ := whileB_iff.1 h
    exact ⟨n + 1, by rw [whileN, hb]; exact hn⟩
   | bk s' => exact ⟨1, by rw [whileN, hb]; exact h⟩
   | rt r => exact ⟨1, by rw [whileN, hb]; exact h⟩
def spanOf (o a b day : Int) (s : cal_Shift) : cal_Span := ⟨if a < day * 1440 - o + s.from_ then day * 1440 - o + s.from_ else a, if day * 1440 - o + s.to_ < b then day * 1440 - o + s.to_ else b⟩
def visitL (c : cal_Calendar) (o a b day : Int) : List cal_Span := ((daySh c day).map (spanOf o a b day)).filter fun x => decide (x.from_ < x.to_)
theorem visit_val {c : cal_Calendar} (hc : CalOk c) (p : cal_part) (a b day : Int) {S : Type} (y : cal_Span → S → Option (Bool × S)) (s : S) (h : -10000 ≤ day) (h' : day ≤ 10000) (ho : -1440 ≤ p.offset ∧ p.offset ≤ 1440) :
  cal_Calendar_shifts_1_1 day c p a b y s = iterB y (visitL c p.offset a b day) s := by
 unfold cal_Calendar_shifts_1_1 visitL
 rw [shiftsOf_val hc day (by omega) (by omega)]
 have hok := (daySh_ok hc day).1
 simp only [Option.bind_some]
 rw [w64_id (n := day * 1440) (by omega) (by omega), w64_id (n := day * 1440 - p.offset) (by omega) (by omega)]
 generalize daySh c day = l at hok
 rw [rangeB_forL l (fun _ x25 s25 => Option.bind (if (decide ((spanOf p.offset a b day x25).from_ < (spanOf p.offset a b day x25).to_)) = true then (Option.bind (y (spanOf p.offset a b day x25) s25) fun x75 => some (!x75.1, x75.2)) else (some (false, s25))) fun s64 => if s64.1 = true then some (.rt (false, s64.2)) else some (.nx s64.2)) _ (by
  intro k s25 x hx
  obtain ⟨o1, o2, o3, o4⟩ := hok x (List.mem_of_getElem? hx)
  simp only [idx_nat, hx, Option.bind_some]
  rw [w64_id (n := day * 1440 - p.offset + x.from_) (by omega) (by omega), w64_id (n := day * 1440 - p.offset + x.to_) (by omega) (by omega)]
  rfl)]
 clear hok
 generalize 0 = k
 induction l generalizing k s with
 | nil => rfl
 | cons x l ih =>
  rw [forL, List.map_cons]
  by_cases hx : (spanOf p.offset a b day x).from_ < (spanOf p.offset a b day x).to_
  ·rw [List.filter_cons_of_pos (by simpa using hx), iterB]
   simp only [hx, decide_true, if_true]
   cases y (spanOf p.offset a b day x) s with
   | none => rfl
   | some r =>
    obtain ⟨r1, r2⟩ := r
    cases r1 with
    | true =>
     simp only [Option.bind_some, Bool.not_true, Bool.false_eq_true, if_false, if_true]
     exact ih r2 (k + 1)
    | false => simp [Lp.andThen]
  ·rw [List.filter_cons_of_neg (by simpa using hx)]
   simp only [hx, decide_false, Bool.false_eq_true, if_false, Option.bind_some]
   exact ih s (k + 1)
def daysL (c : cal_Calendar) (o a b : Int) : Int → Nat → List cal_Span
 | _, 0 => []
 | d, n + 1 => visitL c o a b d ++ daysL c o a b (d + 1) n
theorem days_val {c : cal_Calendar} (hc : CalOk c) (p : cal_part) (a b hi : Int) {S : Type} (y : cal_Span → S → Option (Bool × S)) (ho : -1440 ≤ p.offset ∧ p.offset ≤ 1440) (hb : 0 ≤ b ∧ b ≤ 4000000) (hhi : hi = (b - 1 + p.offset) / 1440) :
  ∀ (n : Nat) (d : Int) (s : S), -5000 ≤ d → d + n = hi + 1 →
   whileB (fun s93 => Option.bind (cal_floor (w64 ((w64 (b - 1)) + p.offset)) 1440) fun x105 => if (decide (s93.1 ≤ x105)) = true then Option.bind (cal_Calendar_shifts_1_1 s93.1 c p a b y s93.2) fun x107 => if (!x107.1) = true then some (.rt x107.2) else some (.nx (w64 (s93.1 + 1), x107.2)) else some (.bk (s93.1, s93.2))) (d, s) =
    Option.bind (iterB y (daysL c p.offset a b d n) s) fun r => some (if r.1 = true then Lp.fin (hi + 1, r.2) else Lp.rt r.2) := by
 have hf : cal_floor (w64 ((w64 (b - 1)) + p.offset)) 1440 = some hi := by
  rw [w64_id (n := b - 1) (by omega) (by omega), w64_id (by omega) (by omega), floor1440 _ (by omega) (by omega), hhi]
 simp only [hf, Option.bind_some]
 intro n
 induction n with
 | zero =>
  intro d s hd hn
  rw [whileB_eq]
  have : ¬ d ≤ hi := by omega
  simp only [this, decide_false, Bool.false_eq_true, if_false, daysL, iterB, Option.bind_some, if_true]
  rw [show d = hi + 1 by omega]
 | succ n ih =>
  intro d s hd hn
  rw [whileB_eq]
  have : d ≤ hi := by omega
  simp only [this, decide_true, if_true]
  rw [visit_val hc p a b d y s (by omega) (by omega) ho, daysL, iterB_append]
  cases iterB y (visitL c p.offset a b d) s with
  | none => rfl
  | some r =>
   obtain ⟨r1, r2⟩ := r
   cases r1 with
   | true =>
    simp only [Option.bind_some, Bool.not_true, Bool.false_eq_true, if_false, if_true]
    rw [w64_id (by omega) (by omega)]
    exact ih (d + 1) r2 (by omega) (by omega)
   | false => simp
def partAB (c : cal_Calendar) (o a b : Int) : List cal_Span := if b ≤ a then [] else daysL c o a b ((a + o) / 1440 - 1) (((b - 1 + o) / 1440 - (a + o) / 1440 + 2).toNat)
def partL (c : cal_Calendar) (from_ to_ : Int) (p : cal_part) : List cal_Span := partAB c p.offset (if from_ < p.from_ then p.from_ else from_) (if p.to_ < to_ then p.to_ else to_)
def shL (c : cal_Calendar) (from_ to_ : Int) : List cal_Span := ((List.range (c.zone.changes.length + 1)).map (prt c.zone)).flatMap (partL c from_ to_)
theorem shifts_val {c : cal_Calendar} (hc : CalOk c) (from_ to_ : Int) (hf : 0 ≤ from_ ∧ from_ ≤ 3000001) (ht : 0 ≤ to_ ∧ to_ ≤ 3000001) {S : Type} (y : cal_Span → S → Option (Bool × S)) (s : S) :
  cal_Calendar_shifts_1 y s c from_ to_ = (iterB y (shL c from_ to_) s).map (·.2) := by
 unfold cal_Calendar_shifts_1 shL
 rw [parts_val _ hc.changes]
 simp only [Option.bind_some]
 have hp : ∀ p ∈ (List.range (c.zone.changes.length + 1)).map (prt c.zone), (0 ≤ p.from_ ∧ p.from_ ≤ 3000001) ∧ (0 ≤ p.to_ ∧ p.to_ ≤ 3000001) ∧ (-1440 ≤ p.offset ∧ p.offset ≤ 1440) := by
  intro p hp
  obtain ⟨k, hk, rfl⟩ := List.mem_map.1 hp
  have hk' := List.mem_range.1 hk
  exact ⟨fr_range hc.zone k (by omega), fr_range hc.zone (k + 1) (by omega), ofs_bound hc.zone k⟩
 generalize (List.range (c.zone.changes.length + 1)).map (prt c.zone) = l at hp
 rw [rangeB_forL l (fun _ x s => Option.bind (iterB y (partL c from_ to_ x) s) fun r => if r.1 = true then some (.nx r.2) else some (.rt r.2)) _ (by
  intro k s28 x hx
  obtain ⟨p1, p2, p3⟩ := hp x (List.mem_of_getElem? hx)
  simp only [idx_nat, hx, Option.bind_some, partL, partAB]
  by_cases hle : (if x.to_ < to_ then x.to_ else to_) ≤ (if from_ < x.from_ then x.from_ else from_)
  ·simp only [hle, decide_true, if_true, Option.bind_some, Lp.andThen_fin, iterB]
  ·simp only [hle, decide_false, Bool.false_eq_true, if_false]
   generalize hga : (if from_ < x.from_ then x.from_ else from_) = a at hle
   generalize hgb : (if x.to_ < to_ then x.to_ else to_) = b at hle
   have ha : 0 ≤ a ∧ a ≤ 3000001 := by split at hga <;> omega
   have hb : 0 ≤ b ∧ b ≤ 3000001 := by split at hgb <;> omega
   rw [w64_id (n := a + x.offset) (by omega) (by omega), floor1440 _ (by omega) (by omega)]
   simp only [Option.bind_some]
   rw [w64_id (n := (a + x.offset) / 1440 - 1) (by omega) (by omega)]
   rw [days_val hc x a b ((b - 1 + x.offset) / 1440) y p3 (by omega) rfl (((b - 1 + x.offset) / 1440 - (a + x.offset) / 1440 + 2).toNat) ((a + x.offset) / 1440 - 1) s28 (by omega) (by omega)]
   cases iterB y (daysL c x.offset a b ((a + x.offset) / 1440 - 1) (((b - 1 + x.offset) / 1440 - (a + x.offset) / 1440 + 2).toNat)) s28 with
   | none => rfl
   | some r =>
    obtain ⟨r1, r2⟩ := r
    cases r1 <;> simp [Lp.andThen])]
 clear hp
 generalize 0 = k
 induction l generalizing k s with
 | nil => rfl
 | cons x l ih =>
  rw [forL, List.flatMap_cons, iterB_append]
  cases iterB y (partL c from_ to_ x) s with
  | none => rfl
  | some r =>
   obtain ⟨r1, r2⟩ := r
   cases r1 with
   | true =>
    simp only [Option.bind_some, if_true]
    exact ih r2 (k + 1)
   | false => simp [Lp.andThen]
theorem days_mem (c : cal_Calendar) (o a b : Int) (x : cal_Span) : ∀ (n : Nat) (d : Int), x ∈ daysL c o a b d n ↔ ∃ day s, d ≤ day ∧ day < d + n ∧ s ∈ daySh c day ∧ x = spanOf o a b day s ∧ x.from_ < x.to_
 | 0, d => by
  simp only [daysL, List.not_mem_nil, false_iff]
  rintro ⟨day, s, h1, h2, _⟩
  omega
 | n + 1, d => by
  rw [daysL, List.mem_append, days_mem c o a b x n (d + 1)]
  simp only [visitL, List.mem_filter, List.mem_map, decide_eq_true_eq]
  constructor
  ·rintro (⟨⟨s, hs, rfl⟩, h⟩ | ⟨day, s, h1, h2, h3, h4, h5⟩)
   ·exact ⟨d, s, by omega, by omega, hs, rfl, h⟩
   ·exact ⟨day, s, by omega, by omega, h3, h4, h5⟩
  ·rintro ⟨day, s, h1, h2, h3, rfl, h5⟩
   by_cases hd : day = d
   ·subst hd
    exact .inl ⟨⟨s, h3, rfl⟩, h5⟩
   ·exact .inr ⟨day, s, by omega, by omega, h3, rfl, h5⟩
theorem days_sorted {c : cal_Calendar} (hc : CalOk c) (o a b : Int) : ∀ (n : Nat) (d : Int), (daysL c o a b d n).Pairwise fun x y => x.from_ ≤ y.from_
 | 0, d => .nil
 | n + 1, d => by
  rw [daysL, List.pairwise_append]
  refine ⟨?_, days_sorted hc o a b n (d + 1), ?_⟩
  ·unfold visitL
   refine List.Pairwise.filter _ (List.pairwise_map.2 ((daySh_ok hc d).2.1.imp fun {s t} h => ?_))
   simp only [spanOf]
   split <;> split <;> omega
  ·intro x hx y hy
   simp only [visitL, List.mem_filter, List.mem_map] at hx
   obtain ⟨⟨s, hs, rfl⟩, _⟩ := hx
   obtain ⟨day, t, h1, _, h3, rfl, _⟩ := (days_mem c o a b y n (d + 1)).1 hy
   have o1 := (daySh_ok hc d).1 s hs
   have o2 := (daySh_ok hc day).1 t h3
   obtain ⟨q1, q2, q3, q4⟩ := o1
   obtain ⟨u1, u2, u3, u4⟩ := o2
   simp only [spanOf]
   split <;> split <;> omega
theorem part_mem {c : cal_Calendar} (hc : CalOk c) (from_ to_ : Int) (p : cal_part) (x : cal_Span) (h : x ∈ partL c from_ to_ p) : from_ ≤ x.from_ ∧ p.from_ ≤ x.from_ ∧ x.from_ < x.to_ ∧ x.to_ ≤ to_ ∧ x.to_ ≤ p.to_ ∧ ∃ day s, s ∈ daySh c day ∧ day * 1440 - p.offset + s.from_ ≤ x.from_ ∧ x.to_ ≤ day * 1440 - p.offset + s.to_ := by
 unfold partL at h
 generalize hga : (if from_ < p.from_ then p.from_ else from_) = a at h
 generalize hgb : (if p.to_ < to_ then p.to_ else to_) = b at h
 have ha : from_ ≤ a ∧ p.from_ ≤ a := by split at hga <;> omega
 have hb : b ≤ to_ ∧ b ≤ p.to_ := by split at hgb <;> omega
 unfold partAB at h
 by_cases hba : b ≤ a
 ·rw [if_pos hba] at h; simp at h
 ·rw [if_neg hba] at h
  obtain ⟨day, s, h1, h2, h3, rfl, h5⟩ := (days_mem ..).1 h
  have q : a ≤ (spanOf p.offset a b day s).from_ ∧ (spanOf p.offset a b day s).to_ ≤ b ∧ day * 1440 - p.offset + s.from_ ≤ (spanOf p.offset a b day s).from_ ∧ (spanOf p.offset a b day s).to_ ≤ day * 1440 - p.offset + s.to_ := by
   simp only [spanOf]
   refine ⟨by split <;> omega, by split <;> omega, by split <;> omega, by split <;> omega⟩
  exact ⟨by omega, by omega, h5, by omega, by omega, day, s, h3, q.2.2.1, q.2.2.2⟩
theorem part_at {z : cal_Zone} (hz : ZoneOk z) (m : Int) (h0 : 0 ≤ m) (h1 : m < 3000001) : ∃ k, k ≤ z.changes.length ∧ fr z k ≤ m ∧ m < fr z (k + 1) := by
 have key : ∀ n, n ≤ z.changes.length + 1 → m < fr z n → ∃ k, k < n ∧ fr z k ≤ m ∧ m < fr z (k + 1) := by
  intro n
  induction n with
  | zero => intro _ h; simp only [fr] at h; omega
  | succ n ih =>
   intro hn h
   rcases Int.lt_or_le m (fr z n) with h2 | h2
   ·obtain ⟨k, h3, h4⟩ := ih (by omega) h2
    exact ⟨k, by omega, h4⟩
   ·exact ⟨n, by omega, h2, h⟩
 obtain ⟨k, h2, h3⟩ := key (z.changes.length + 1) (Nat.le_refl _) (by rw [fr_last]; exact h1)
 exact ⟨k, by omega, h3⟩
theorem sh_spec {c : cal_Calendar} (hc : CalOk c) (from_ to_ : Int) (hf : 0 ≤ from_ ∧ from_ ≤ 3000001) (ht : 0 ≤ to_ ∧ to_ ≤ 3000001) :
  (∀ x ∈ shL c from_ to_, from_ ≤ x.from_ ∧ x.from_ < x.to_ ∧ x.to_ ≤ to_) ∧ (shL c from_ to_).Pairwise (fun x y => x.from_ ≤ y.from_) ∧
   ∀ m, from_ ≤ m → m < to_ → (Opn c m ↔ ∃ x ∈ shL c from_ to_, x.from_ ≤ m ∧ m < x.to_) := by
 refine ⟨fun x hx => ?_, ?_, fun m h1 h2 => ⟨?_, ?_⟩⟩
 ·obtain ⟨p, hp, hx⟩ := List.mem_flatMap.1 hx
  obtain ⟨q1, q2, q3, q4, _⟩ := part_mem hc from_ to_ p x hx
  exact ⟨q1, q3, q4⟩
 ·unfold shL
  rw [List.pairwise_flatMap]
  refine ⟨fun p _ => ?_, ?_⟩
  ·unfold partL partAB
   generalize (if p.to_ < to_ then p.to_ else to_) = b
   generalize (if from_ < p.from_ then p.from_ else from_) = a
   split
   ·exact .nil
   ·exact days_sorted hc _ _ _ _ _
  ·refine List.pairwise_map.2 (List.Pairwise.imp_of_mem ?_ List.pairwise_lt_range)
   intro j k hj hk hjk x hx y hy
   obtain ⟨_, _, q3, _, q5, _⟩ := part_mem hc from_ to_ _ x hx
   obtain ⟨_, u2, _⟩ := part_mem hc from_ to_ _ y hy
   have hk' := List.mem_range.1 hk
   have := fr_le hc.zone (j + 1) (k - (j + 1)) (by omega)
   rw [show j + 1 + (k - (j + 1)) = k by omega] at this
   simp only [prt] at q5 u2
   omega
 ·rintro ⟨day, s, hs, q1, q2⟩
  obtain ⟨k, hk, k1, k2⟩ := part_at hc.zone m (by omega) (by omega)
  rw [off_part hc.zone k hk m k1 k2] at q1 q2
  obtain ⟨o1, o2, o3, o4⟩ := (daySh_ok hc day).1 s hs
  have hb := ofs_bound hc.zone k
  have hr := fr_range hc.zone k (by omega)
  have hr1 := fr_range hc.zone (k + 1) (by omega)
  generalize hga : (if from_ < fr c.zone k then fr c.zone k else from_) = a
  generalize hgb : (if fr c.zone (k + 1) < to_ then fr c.zone (k + 1) else to_) = b
  have ha : a ≤ m ∧ 0 ≤ a := by split at hga <;> omega
  have hb2 : m < b ∧ b ≤ 3000001 := by split at hgb <;> omega
  refine ⟨spanOf (ofs c.zone k) a b day s, List.mem_flatMap.2 ⟨prt c.zone k, List.mem_map.2 ⟨k, List.mem_range.2 (by omega), rfl⟩, ?_⟩, ?_, ?_⟩
  ·show spanOf (ofs c.zone k) a b day s ∈ partAB c (ofs c.zone k) (if from_ < fr c.zone k then fr c.zone k else from_) (if fr c.zone (k + 1) < to_ then fr c.zone (k + 1) else to_)
   rw [hga, hgb, partAB, if_neg (by omega)]
   refine (days_mem ..).2 ⟨day, s, by omega, by omega, hs, rfl, ?_⟩
   simp only [spanOf]
   split <;> split <;> omega
  ·simp only [spanOf]
   split <;> omega
  ·simp only [spanOf]
   split <;> omega
 ·rintro ⟨x, hx, q1, q2⟩
  obtain ⟨p, hp, hx⟩ := List.mem_flatMap.1 hx
  obtain ⟨k, hk, rfl⟩ := List.mem_map.1 hp
  have hk' := List.mem_range.1 hk
  obtain ⟨p1, p2, p3, p4, p5, day, s, hs, p6, p7⟩ := part_mem hc from_ to_ _ x hx
  simp only [prt] at p2 p5 p6 p7
  refine ⟨day, s, hs, ?_, ?_⟩
  ·rw [off_part hc.zone k (by omega) m (by omega) (by omega)]; omega
  ·rw [off_part hc.zone k (by omega) m (by omega) (by omega)]; omega
def mergeL : cal_Span → List cal_Span → List cal_Span
 | last, [] => [last]
 | last, x :: l => if x.from_ ≤ last.to_ then mergeL ⟨last.from_, if last.to_ < x.to_ then x.to_ else last.to_⟩ l else last :: mergeL x l
def mergeA : List cal_Span → List cal_Span
 | [] => []
 | x :: l => mergeL x l
structure Apart (O : Int → Prop) (from_ to_ : Int) (l : List cal_Span) : Prop where
 each : ∀ x ∈ l, from_ ≤ x.from_ ∧ x.from_ < x.to_ ∧ x.to_ ≤ to_
 apart : l.Pairwise fun x y => x.to_ < y.from_
 all : ∀ m, from_ ≤ m → m < to_ → (O m ↔ ∃ x ∈ l, x.from_ ≤ m ∧ m < x.to_)
theorem merge_spec (from_ to_ : Int) : ∀ (l : List cal_Span) (last : cal_Span), (∀ x ∈ last :: l, from_ ≤ x.from_ ∧ x.from_ < x.to_ ∧ x.to_ ≤ to_) → (last :: l).Pairwise (fun x y => x.from_ ≤ y.from_) →
  (∀ x ∈ mergeL last l, last.from_ ≤ x.from_ ∧ x.from_ < x.to_ ∧ x.to_ ≤ to_) ∧ (mergeL last l).Pairwise (fun x y => x.to_ < y.from_) ∧
   (∀ m, (∃ x ∈ last :: l, x.from_ ≤ m ∧ m < x.to_) ↔ ∃ x ∈ mergeL last l, x.from_ ≤ m ∧ m < x.to_)
 | [], last, h, _ => by
  refine ⟨fun x hx => ?_, by simp [mergeL], fun m => by simp [mergeL]⟩
  simp only [mergeL, List.mem_singleton] at hx
  subst hx
  have := h x (by simp)
  omega
 | x :: l, last, h, hs => by
  have h1 := h last (by simp)
  have h2 := h x (by simp)
  obtain ⟨hs1, hs2⟩ := List.pairwise_cons.1 hs
  obtain ⟨hs3, hs4⟩ := List.pairwise_cons.1 hs2
  have h3 := hs1 x (by simp)
  rw [mergeL]
  split
  ·rename_i hle
   obtain ⟨q1, q2, q3⟩ := merge_spec from_ to_ l ⟨last.from_, if last.to_ < x.to_ then x.to_ else last.to_⟩ (fun y hy => by
    rcases List.mem_cons.1 hy with rfl | hy
    ·simp only
     split <;> omega
    ·exact h y (by simp [hy])) (List.pairwise_cons.2 ⟨fun y hy => by
     have := hs1 y (by simp [hy])
     exact this, hs4⟩)
   refine ⟨q1, q2, fun m => ?_⟩
   rw [← q3 m]
   constructor
   ·rintro ⟨y, hy, u1, u2⟩
    rcases List.mem_cons.1 hy with rfl | hy
    ·exact ⟨_, List.mem_cons_self, u1, by simp only; split <;> omega⟩
    ·rcases List.mem_cons.1 hy with rfl | hy
     ·exact ⟨_, List.mem_cons_self, by simp only; omega, by simp only; split <;> omega⟩
     ·exact ⟨y, List.mem_cons_of_mem _ hy, u1, u2⟩
   ·rintro ⟨y, hy, u1, u2⟩
    rcases List.mem_cons.1 hy with rfl | hy
    ·simp only at u1 u2
     by_cases hm : m < last.to_
     ·exact ⟨last, by simp, u1, hm⟩
     ·refine ⟨x, by simp, by omega, ?_⟩
      split at u2 <;> omega
    ·exact ⟨y, by simp [hy], u1, u2⟩
  ·rename_i hle
   obtain ⟨q1, q2, q3⟩ := merge_spec from_ to_ l x (fun y hy => h y (by simp at hy ⊢; exact .inr hy)) hs2
   refine ⟨fun y hy => ?_, List.pairwise_cons.2 ⟨fun y hy => ?_, q2⟩, fun m => ?_⟩
   ·rcases List.mem_cons.1 hy with rfl | hy
    ·omega
    ·have := q1 y hy; omega
   ·have := q1 y hy; omega
   ·constructor
    ·rintro ⟨y, hy, u1, u2⟩
     rcases List.mem_cons.1 hy with rfl | hy
     ·exact ⟨_, List.mem_cons_self, u1, u2⟩
     ·obtain ⟨z, hz, u3⟩ := (q3 m).1 ⟨y, hy, u1, u2⟩
      exact ⟨z, List.mem_cons_of_mem _ hz, u3⟩
    ·rintro ⟨y, hy, u1, u2⟩
     rcases List.mem_cons.1 hy with rfl | hy
     ·exact ⟨_, List.mem_cons_self, u1, u2⟩
     ·obtain ⟨z, hz, u3⟩ := (q3 m).2 ⟨y, hy, u1, u2⟩
      exact ⟨z, List.mem_cons_of_mem _ hz, u3⟩
def openL (c : cal_Calendar) (from_ to_ : Int) : List cal_Span := mergeA (shL c from_ to_)
theorem open_spec {c : cal_Calendar} (hc : CalOk c) (from_ to_ : Int) (hf : 0 ≤ from_ ∧ from_ ≤ 3000001) (ht : 0 ≤ to_ ∧ to_ ≤ 3000001) : Apart (Opn c) from_ to_ (openL c from_ to_) := by
 obtain ⟨h1, h2, h3⟩ := sh_spec hc from_ to_ hf ht
 unfold openL
 cases hl : shL c from_ to_ with
 | nil =>
  rw [hl] at h3
  exact ⟨fun x hx => by simp [mergeA] at hx, .nil, fun m q1 q2 => by rw [h3 m q1 q2]; simp [mergeA]⟩
 | cons x l =>
  rw [hl] at h1 h2 h3
  obtain ⟨q1, q2, q3⟩ := merge_spec from_ to_ l x h1 h2
  have := h1 x (by simp)
  exact ⟨fun y hy => by have := q1 y hy; omega, q2, fun m u1 u2 => by rw [h3 m u1 u2]; exact q3 m⟩
theorem open_val {c : cal_Calendar} (hc : CalOk c) (from_ to_ : Int) (hf : 0 ≤ from_ ∧ from_ ≤ 3000001) (ht : 0 ≤ to_ ∧ to_ ≤ 3000001) {S : Type} (y : cal_Span → S → Option (Bool × S)) (s : S) :
  cal_Calendar_open_1 y s c from_ to_ = (iterB y (openL c from_ to_) s).map (·.2) := by
 unfold cal_Calendar_open_1 cal_Calendar_shifts
 simp only [Option.bind_some]
 rw [shifts_val hc from_ to_ hf ht]
 obtain ⟨h1, h2, h3⟩ := sh_spec hc from_ to_ hf ht
 unfold openL
 have key : ∀ (l : List cal_Span) (last : cal_Span) (s : S), 0 ≤ last.from_ → (∀ x ∈ l, 0 ≤ x.from_) →
   (Option.bind ((iterB (yieldB (fun (x43 : cal_Span) (s35 : (cal_Span × S)) => Option.bind (α := Lp _ _) (Option.bind (α := Lp _ _) (Option.bind (α := Lp _ _) (if (decide (s35.1.from_ < 0)) = true then some (.fin (x43, s35.2)) else Option.bind (α := Lp _ _) (if (decide (x43.from_ ≤ s35.1.to_)) = true then some (.fin ((⟨s35.1.from_, (if s35.1.to_ < x43.to_ then x43.to_ else s35.1.to_)⟩ : cal_Span), s35.2)) else Option.bind (y s35.1 s35.2) fun x110 => if (!x110.1) = true then some (.rt ((s35.1, x110.2), some 0)) else some (.fin (x43, x110.2))) fun o96 => o96.andThen (fun y => some (.rt y)) fun s97 => some (.fin (s97.1, s97.2))) fun o81 => o81.andThen (fun y => some (.rt y)) fun s82 => some (.fin (s82.1, s82.2))) fun o73 => o73.andThen (fun y => some (.rt y)) fun s74 => some (.fin (s74.1, s74.2))) fun o65 => o65.andThen (fun y => some y) fun s66 => some ((s66.1, s66.2), none))) l ((last, s), none)).map (·.2)) fun z33 =>
    if z33.2 = some 0 then (some z33.1.2) else Option.bind (if (decide ((0 : Int) ≤ z33.1.1.from_)) = true then Option.bind (y z33.1.1 z33.1.2) fun x148 => some x148.2 else some z33.1.2) fun s140 => some s140) = (iterB y (mergeL last l) s).map (·.2) := by
  intro l
  induction l with
  | nil =>
   intro last s hlast _
   simp only [iterB, mergeL, Option.map_some, Option.bind_some, reduceCtorEq, if_false, hlast, decide_true, if_true]
   cases y last s with
   | none => rfl
   | some r =>
    obtain ⟨r1, r2⟩ := r
    cases r1 <;> simp
  | cons x l ih =>
   intro last s hlast hx
   have hn : ¬ last.from_ < 0 := by omega
   have hx0 := hx x (by simp)
   have hl0 : ∀ x ∈ l, 0 ≤ x.from_ := fun z hz => hx z (by simp [hz])
   rw [iterB, mergeL]
   by_cases hle : x.from_ ≤ last.to_
   ·rw [if_pos hle]
    rw [← ih ⟨last.from_, if last.to_ < x.to_ then x.to_ else last.to_⟩ s hlast hl0]
    simp only [yieldB, Option.isNone_none, if_true, hn, decide_false, Bool.false_eq_true, if_false, hle, decide_true, Option.bind_some, Lp.andThen_fin]
   ·rw [if_neg hle]
    conv => rhs; rw [iterB]
    simp only [yieldB, Option.isNone_none, if_true, hn, decide_false, Bool.false_eq_true, if_false, hle, Option.bind_some]
    cases y last s with
    | none => rfl
    | some r =>
     obtain ⟨r1, r2⟩ := r
     cases r1 with
     | true =>
      simp only [Option.bind_some, Bool.not_true, Bool.false_eq_true, if_false, if_true, Lp.andThen_fin, Option.isNone_none]
      exact ih x r2 hx0 hl0
     | false => simp [Lp.andThen]
 cases hl : shL c from_ to_ with
 | nil => simp [iterB, mergeA]
 | cons x l =>
  rw [hl] at h1
  have hx0 := h1 x (by simp)
  have := key l x s (by omega) fun z hz => by have := h1 z (by simp [hz]); omega
  rw [iterB, mergeA, ← this]
  simp [yieldB, Lp.andThen]
end Go.Proofs.YtfbnaobiondblaaGreatDoor.M
