import Derived.Test.YtabkhhpkibbheaaClockRanksM
import Derived.Test.YtabkhhpkibbheaaPl
namespace Go.Proofs.Ytabkhhpkibbheaa.M
open Go Go.Pu
set_option linter.unusedSimpArgs false
set_option linter.unusedVariables false
def ChOk (c : cal_Change) : Prop := 1 ≤ c.at_ ∧ c.at_ ≤ 3000000 ∧ -1440 ≤ c.offset ∧ c.offset ≤ 1440
def ZoneOk (z : cal_Zone) : Prop := (-1440 ≤ z.offset ∧ z.offset ≤ 1440) ∧ (∀ (j : Nat) (c : cal_Change), z.changes[j]? = some c → ChOk c) ∧ ∀ (j : Nat) (c d : cal_Change), z.changes[j]? = some c → z.changes[j + 1]? = some d → c.at_ < d.at_
theorem zoneFault_bad (n : Int) : (!(cal_within n (-1440) 1440)) = portref2_ZoneFault_1 n := by
 simp only [cal_within, portref2_ZoneFault_1]
 rw [Bool.eq_iff_iff]
 simp
theorem zone_eq (z : cal_Zone) : ∃ r, cal_CheckZone z = some r ∧ portref2_ZoneFault z = some r ∧ (r = 0 → ZoneOk z) := by
 unfold cal_CheckZone portref2_ZoneFault
 rw [zoneFault_bad]
 by_cases h1 : portref2_ZoneFault_1 z.offset = true
 ·simp only [h1, if_true]; exact ⟨2, rfl, rfl, fun h => absurd h (by decide)⟩
 simp only [h1, if_false]
 by_cases h2 : (60 : Int) < (z.changes.length : Int)
 ·simp only [h2, decide_true, if_true]; exact ⟨4, rfl, rfl, fun h => absurd h (by decide)⟩
 simp only [h2, decide_false, Bool.false_eq_true, if_false]
 simp only [zoneFault_bad, if_true]
 have hoff : -1440 ≤ z.offset ∧ z.offset ≤ 1440 := by
  simp [portref2_ZoneFault_1] at h1; omega
 have sim := rangeB_sim (R := Int) z.changes.length
  (b := fun (k34 : Nat) (s35 : Int × Int) => Option.bind (idx z.changes (k34 : Int)) fun x45 => if ((!(cal_within x45.at_ 1 3000000)) || portref2_ZoneFault_1 x45.offset) = true then some (.rt 2) else if (decide (x45.at_ ≤ s35.1)) = true then some (.rt 5) else if (x45.offset == s35.2) = true then some (.rt 1) else some (.nx (x45.at_, x45.offset)))
  (b' := fun k32 s33 => Option.bind (idx z.changes (k32 : Int)) fun x43 => Option.bind (if (decide (x43.at_ < 1)) = true then (some true) else (if (decide ((3000000 : Int) < x43.at_)) = true then (some true) else (some (portref2_ZoneFault_1 x43.offset)))) fun s61 => if s61 = true then some (.rt 2) else Option.bind (if (decide ((0 : Int) < (k32 : Int))) = true then (Option.bind (idx z.changes (w64 ((k32 : Int) - 1))) fun x75 => some (decide (x43.at_ ≤ x75.at_))) else (some false)) fun s68 => if s68 = true then some (.rt 5) else if (x43.offset == s33) = true then some (.rt 1) else some (.nx x43.offset))
  (s := (0, z.offset)) (s' := z.offset)
  (fun r => r ≠ 0) (fun k s s' => s.2 = s' ∧ (k = 0 → s.1 = 0) ∧ (∀ (j : Nat) (c : cal_Change), j < k → z.changes[j]? = some c → ChOk c) ∧ (∀ (j : Nat) (c d : cal_Change), j + 1 < k → z.changes[j]? = some c → z.changes[j + 1]? = some d → c.at_ < d.at_) ∧ ∀ c, 0 < k → z.changes[k - 1]? = some c → s.1 = c.at_)
  ⟨rfl, fun _ => rfl, fun j c h => absurd h (Nat.not_lt_zero _), fun j c d h => absurd h (Nat.not_lt_zero _), fun c h => absurd h (Nat.lt_irrefl _)⟩ ?_
 ·rcases sim with ⟨r, e1, e2, hr⟩ | ⟨t, t', e1, e2, hI⟩
  ·rw [e1, e2]
   exact ⟨r, rfl, rfl, fun h => absurd h hr⟩
  ·rw [e1, e2]
   refine ⟨0, rfl, rfl, fun _ => ⟨hoff, fun j c hc => hI.2.2.1 j c (List.getElem?_eq_some_iff.1 hc).1 hc, fun j c d hc hd => hI.2.2.2.1 j c d (List.getElem?_eq_some_iff.1 hd).1 hc hd⟩⟩
 ·rintro k ⟨a, o⟩ s' hk ⟨rfl, hz, hall, hord, hprev⟩
  simp only at hz hprev ⊢
  obtain ⟨c, hc⟩ : ∃ c, z.changes[k]? = some c := ⟨_, List.getElem?_eq_getElem hk⟩
  have hw : w64 ((k : Int) - 1) = (k : Int) - 1 := w64_id (by omega) (by omega)
  simp only [idx_nat, hc, Option.bind_some, hw]
  have hin : cal_within c.at_ 1 3000000 = (decide (1 ≤ c.at_) && decide (c.at_ ≤ 3000000)) := rfl
  by_cases hat : 1 ≤ c.at_ ∧ c.at_ ≤ 3000000
  ·have e1 : decide (c.at_ < 1) = false := by simp; omega
   have e1' : decide ((3000000 : Int) < c.at_) = false := by simp; omega
   have e2 : cal_within c.at_ 1 3000000 = true := by rw [hin]; simp [hat]
   simp only [e1, e1', e2, Bool.not_true, Bool.false_or, Bool.false_eq_true, if_false, Option.bind_some]
   by_cases hb : portref2_ZoneFault_1 c.offset = true
   ·simp only [hb, if_true]; exact Or.inl ⟨2, rfl, rfl, by decide⟩
   simp only [hb, Bool.false_eq_true, if_false]
   have hco : -1440 ≤ c.offset ∧ c.offset ≤ 1440 := by simp [portref2_ZoneFault_1] at hb; omega
   have same : (if (decide ((0 : Int) < (k : Int))) = true then (Option.bind (idx z.changes ((k : Int) - 1)) fun x75 => some (decide (c.at_ ≤ x75.at_))) else (some false)) = some (decide (c.at_ ≤ a)) := by
    by_cases h0 : 0 < k
    ·have : (0 : Int) < (k : Int) := by omega
     simp only [this, decide_true, if_true]
     rw [show (k : Int) - 1 = ((k - 1 : Nat) : Int) by omega, idx_lt _ _ (by omega), Option.bind_some, hprev _ h0 (List.getElem?_eq_getElem (by omega))]
    ·obtain rfl : k = 0 := by omega
     rw [hz rfl]
     have : ¬ c.at_ ≤ 0 := by omega
     simp [this]
   rw [same, Option.bind_some]
   by_cases h5 : c.at_ ≤ a
   ·simp only [h5, decide_true, if_true]; exact Or.inl ⟨5, rfl, rfl, by decide⟩
   simp only [h5, decide_false, Bool.false_eq_true, if_false]
   by_cases h6 : (c.offset == o) = true
   ·simp only [h6, if_true]; exact Or.inl ⟨1, rfl, rfl, by decide⟩
   simp only [h6, Bool.false_eq_true, if_false]
   refine Or.inr ⟨_, _, rfl, rfl, rfl, fun h => absurd h (by omega), ?_, ?_, ?_⟩
   ·intro j d hj hd
    rcases Nat.lt_or_eq_of_le (Nat.le_of_lt_succ hj) with h | rfl
    ·exact hall j d h hd
    ·rw [hc] at hd; cases hd; exact ⟨hat.1, hat.2, hco.1, hco.2⟩
   ·intro j d1 d2 hj h1' h2'
    rcases Nat.lt_or_eq_of_le (Nat.le_of_lt_succ hj) with h | rfl
    ·exact hord j d1 d2 h h1' h2'
    ·rw [hc] at h2'; cases h2'
     have := hprev d1 (by omega) (by simpa using h1')
     omega
   ·intro d _ hd
    rw [Nat.add_sub_cancel, hc] at hd; cases hd; rfl
  ·have e2 : cal_within c.at_ 1 3000000 = false := by rw [hin]; simp; omega
   have e1 : (if (decide (c.at_ < 1)) = true then (some true) else (if (decide ((3000000 : Int) < c.at_)) = true then (some true) else (some (portref2_ZoneFault_1 c.offset)))) = some true := by
    by_cases h : c.at_ < 1
    ·simp [h]
    ·have : (3000000 : Int) < c.at_ := by omega
     simp [h, this]
   simp only [e1, e2, if_true, Bool.not_false, Bool.true_or, Option.bind_some]
   exact Or.inl ⟨2, rfl, rfl, by decide⟩
theorem or_two (a b : Int) : cmp_Or_api_Errno [a, b] = some (if a ≠ 0 then a else b) := by
 by_cases ha : a = 0 <;> by_cases hb : b = 0 <;> simp [cmp_Or_api_Errno, rangeB, idx, ha, hb, Lp.andThen]
def offTo (z : cal_Zone) (m : Int) : Nat → Int
 | 0 => z.offset
 | k + 1 => match z.changes[k]? with
  | some c => if c.at_ ≤ m then c.offset else offTo z m k
  | none => offTo z m k
def off (z : cal_Zone) (m : Int) : Int := offTo z m z.changes.length
theorem offTo_bound {z : cal_Zone} (hz : ZoneOk z) (m : Int) (k : Nat) : -1440 ≤ offTo z m k ∧ offTo z m k ≤ 1440 := by
 induction k with
 | zero => exact hz.1
 | succ k ih =>
  rw [offTo]
  cases h : z.changes[k]? with
  | none => exact ih
  | some c =>
   simp only
   split
   ·exact (hz.2.1 k c h).2.2
   ·exact ih
theorem off_bound {z : cal_Zone} (hz : ZoneOk z) (m : Int) : -1440 ≤ off z m ∧ off z m ≤ 1440 := offTo_bound hz m _
theorem offsetIn_val (z : cal_Zone) (m : Int) : portref2_OffsetIn z m = some (off z m) := by
 unfold portref2_OffsetIn
 obtain ⟨t, h, rfl⟩ := rangeB_inv (R := Int) (b := fun k17 s23 => Option.bind (Option.bind (idx z.changes (k17 : Int)) fun x44 => Option.bind (if (decide (x44.at_ ≤ m)) = true then some x44.offset else some s23) fun s59 => some s59) fun s37 => some (.nx s37)) z.changes.length
  (fun k x => x = offTo z m k) (s := z.offset) rfl (by
   rintro k _ hk rfl
   have hc : z.changes[k]? = some z.changes[k] := List.getElem?_eq_getElem hk
   rw [idx_lt _ _ hk, offTo, hc]
   by_cases hm : z.changes[k].at_ ≤ m
   ·simp [hm]
   ·simp [hm])
 rw [h]
 rfl
def fr (z : cal_Zone) : Nat → Int
 | 0 => 0
 | k + 1 => match z.changes[k]? with
  | some c => c.at_
  | none => 3000001
def ofs (z : cal_Zone) : Nat → Int
 | 0 => z.offset
 | k + 1 => match z.changes[k]? with
  | some c => c.offset
  | none => 0
theorem fr_lt {z : cal_Zone} (hz : ZoneOk z) (k : Nat) (hk : k ≤ z.changes.length) : fr z k < fr z (k + 1) := by
 cases k with
 | zero =>
  rw [fr, fr]
  cases h : z.changes[0]? with
  | none => simp
  | some c => have := (hz.2.1 0 c h).1; simp only; omega
 | succ k =>
  have hc : z.changes[k]? = some z.changes[k] := List.getElem?_eq_getElem (by omega)
  generalize z.changes[k] = c at hc
  rw [fr, fr, hc]
  have h1 := hz.2.1 k c hc
  cases h : z.changes[k + 1]? with
  | none => have := h1.2.1; simp only; omega
  | some d => exact hz.2.2 k c d hc h
theorem fr_le {z : cal_Zone} (hz : ZoneOk z) (k : Nat) : ∀ d, k + d ≤ z.changes.length + 1 → fr z k ≤ fr z (k + d)
 | 0, _ => Int.le_refl _
 | d + 1, h => by
  have h1 := fr_le hz k d (by omega)
  have h2 := fr_lt hz (k + d) (by omega)
  rw [← Nat.add_assoc]
  omega
theorem fr_last (z : cal_Zone) : fr z (z.changes.length + 1) = 3000001 := by
 rw [fr]
 simp
theorem fr_range {z : cal_Zone} (hz : ZoneOk z) (k : Nat) (hk : k ≤ z.changes.length + 1) : 0 ≤ fr z k ∧ fr z k ≤ 3000001 := by
 have h1 := fr_le hz 0 k (by omega)
 have h2 := fr_le hz k (z.changes.length + 1 - k) (by omega)
 rw [Nat.zero_add, fr] at h1
 rw [show k + (z.changes.length + 1 - k) = z.changes.length + 1 by omega, fr_last] at h2
 exact ⟨h1, h2⟩
theorem ofs_bound {z : cal_Zone} (hz : ZoneOk z) (k : Nat) : -1440 ≤ ofs z k ∧ ofs z k ≤ 1440 := by
 cases k with
 | zero => exact hz.1
 | succ k =>
  rw [ofs]
  cases h : z.changes[k]? with
  | none => simp
  | some c => exact (hz.2.1 k c h).2.2
theorem off_part {z : cal_Zone} (hz : ZoneOk z) (k : Nat) (hk : k ≤ z.changes.length) (m : Int) (h1 : fr z k ≤ m) (h2 : m < fr z (k + 1)) : off z m = ofs z k := by
 have base : offTo z m k = ofs z k := by
  cases k with
  | zero => rfl
  | succ k =>
   have hc : z.changes[k]? = some z.changes[k] := List.getElem?_eq_getElem (by omega)
   generalize z.changes[k] = c at hc
   rw [fr, hc] at h1
   rw [offTo, ofs, hc]
   simp only at h1 ⊢
   rw [if_pos h1]
 have step : ∀ d, k + d ≤ z.changes.length → offTo z m (k + d) = offTo z m k := by
  intro d
  induction d with
  | zero => intro _; rfl
  | succ d ih =>
   intro hd
   rw [← Nat.add_assoc, offTo, ih (by omega)]
   have hc : z.changes[k + d]? = some z.changes[k + d] := List.getElem?_eq_getElem (by omega)
   have h3 := fr_le hz (k + 1) d (by omega)
   rw [show k + 1 + d = k + d + 1 by omega, show fr z (k + d + 1) = z.changes[k + d].at_ by rw [fr, hc]] at h3
   rw [hc]
   simp only at h3 ⊢
   rw [if_neg (by omega)]
 have := step (z.changes.length - k) (by omega)
 rw [show k + (z.changes.length - k) = z.changes.length by omega] at this
 unfold off
 rw [this, base]
end Go.Proofs.Ytabkhhpkibbheaa.M
