/-
  Zones, their offsets, local times: plain part.
-/
import Derived.Test.YtebbjefkndfkpaaGreatDoorCalParsesM
import Derived.Test.YtebbjefkndfkpaaGreatDoorPl
namespace Go.Proofs.YtebbjefkndfkpaaGreatDoor.M
open Go Go.Pu
set_option linter.unusedSimpArgs false
set_option linter.unusedVariables false

def ChOk (c : cal_Change) : Prop := 1 ≤ c.at_ ∧ c.at_ ≤ 3000000 ∧ -1440 ≤ c.offset ∧ c.offset ≤ 1440
def ZoneOk (z : cal_Zone) : Prop := (-1440 ≤ z.offset ∧ z.offset ≤ 1440) ∧ (∀ (j : Nat) (c : cal_Change), z.changes[j]? = some c → ChOk c) ∧ ∀ (j : Nat) (c d : cal_Change), z.changes[j]? = some c → z.changes[j + 1]? = some d → c.at_ < d.at_

theorem zoneFault_bad (n : Int) : (!(cal_within n (-1440) 1440)) = portref2_ZoneFault_1 n := by
  simp only [cal_within, portref2_ZoneFault_1]
  rw [Bool.eq_iff_iff]
  simp

theorem zone_eq (z : cal_Zone) : ∃ r, cal_CheckZone z = some r ∧ portref2_ZoneFault z = some r ∧ (r = 0 → ZoneOk z) := by
  unfold cal_CheckZone portref2_ZoneFault
  rw [zoneFault_bad]
  by_cases h1 : portref2_ZoneFault_1 z.offset = true
  · simp only [h1, if_true]; exact ⟨2, rfl, rfl, fun h => absurd h (by decide)⟩
  simp only [h1, if_false]
  by_cases h2 : (60 : Int) < (z.changes.length : Int)
  · simp only [h2, decide_true, if_true]; exact ⟨4, rfl, rfl, fun h => absurd h (by decide)⟩
  simp only [h2, decide_false, Bool.false_eq_true, if_false]
  simp only [zoneFault_bad, if_true]
  have hoff : -1440 ≤ z.offset ∧ z.offset ≤ 1440 := by
    simp [portref2_ZoneFault_1] at h1; omega
  have sim := rangeB_sim (R := Int) z.changes.length
    (b := fun (k34 : Nat) (s35 : Int × Int) => Option.bind (idx z.changes (k34 : Int)) fun x45 => if ((!(cal_within x45.at_ 1 3000000)) || portref2_ZoneFault_1 x45.offset) = true then some (.rt 2) else if (decide (x45.at_ ≤ s35.1)) = true then some (.rt 5) else if (x45.offset == s35.2) = true then some (.rt 1) else some (.nx (x45.at_, x45.offset)))
    (b' := fun k32 s33 => Option.bind (idx z.changes (k32 : Int)) fun x43 => Option.bind (if (decide (x43.at_ < 1)) = true then (some true) else (if (decide ((3000000 : Int) < x43.at_)) = true then (some true) else (some (portref2_ZoneFault_1 x43.offset)))) fun s61 => if s61 = true then some (.rt 2) else Option.bind (if (decide ((0 : Int) < (k32 : Int))) = true then (Option.bind (idx z.changes (w64 ((k32 : Int) - 1))) fun x75 => some (decide (x43.at_ ≤ x75.at_))) else (some false)) fun s68 => if s68 = true then some (.rt 5) else if (x43.offset == s33) = true then some (.rt 1) else some (.nx x43.offset))
    (s := (0, z.offset)) (s' := z.offset)
    (fun r => r ≠ 0) (fun k s s' => s.2 = s' ∧ (k = 0 → s.1 = 0) ∧ (∀ (j : Nat) (c : cal_Change), j < k → z.changes[j]? = some c → ChOk c) ∧ (∀ (j : Nat) (c d : cal_Change), j + 1 < k → z.changes[j]? = some c → z.changes[j + 1]? = some d → c.at_ < d.at_) ∧ ∀ c, 0 < k → z.changes[k - 1]? = some c → s.1 = c.at_)
    ⟨rfl, fun _ => rfl, fun j c h => absurd h (Nat.not_lt_zero _), fun j c d h => absurd h (Nat.not_lt_zero _), fun c h => absurd h (Nat.lt_irrefl _)⟩ ?_
  · rcases sim with ⟨r, e1, e2, hr⟩ | ⟨t, t', e1, e2, hI⟩
    · rw [e1, e2]
      exact ⟨r, rfl, rfl, fun h => absurd h hr⟩
    · rw [e1, e2]
      refine ⟨0, rfl, rfl, fun _ => ⟨hoff, fun j c hc => hI.2.2.1 j c (List.getElem?_eq_some_iff.1 hc).1 hc, fun j c d hc hd => hI.2.2.2.1 j c d (List.getElem?_eq_some_iff.1 hd).1 hc hd⟩⟩
  · rintro k ⟨a, o⟩ s' hk ⟨rfl, hz, hall, hord, hprev⟩
    simp only at hz hprev ⊢
    obtain ⟨c, hc⟩ : ∃ c, z.changes[k]? = some c := ⟨_, List.getElem?_eq_getElem hk⟩
    have hw : w64 ((k : Int) - 1) = (k : Int) - 1 := w64_id (by omega) (by omega)
    simp only [idx_nat, hc, Option.bind_some, hw]
    have hin : cal_within c.at_ 1 3000000 = (decide (1 ≤ c.at_) && decide (c.at_ ≤ 3000000)) := rfl
    by_cases hat : 1 ≤ c.at_ ∧ c.at_ ≤ 3000000
    · have e1 : decide (c.at_ < 1) = false := by simp; omega
      have e1' : decide ((3000000 : Int) < c.at_) = false := by simp; omega
      have e2 : cal_within c.at_ 1 3000000 = true := by rw [hin]; simp [hat]
      simp only [e1, e1', e2, Bool.not_true, Bool.false_or, Bool.false_eq_true, if_false, Option.bind_some]
      by_cases hb : portref2_ZoneFault_1 c.offset = true
      · simp only [hb, if_true]; exact Or.inl ⟨2, rfl, rfl, by decide⟩
      simp only [hb, Bool.false_eq_true, if_false]
      have hco : -1440 ≤ c.offset ∧ c.offset ≤ 1440 := by simp [portref2_ZoneFault_1] at hb; omega
      have same : (if (decide ((0 : Int) < (k : Int))) = true then (Option.bind (idx z.changes ((k : Int) - 1)) fun x75 => some (decide (c.at_ ≤ x75.at_))) else (some false)) = some (decide (c.at_ ≤ a)) := by
        by_cases h0 : 0 < k
        · have : (0 : Int) < (k : Int) := by omega
          simp only [this, decide_true, if_true]
          rw [show (k : Int) - 1 = ((k - 1 : Nat) : Int) by omega, idx_lt _ _ (by omega), Option.bind_some, hprev _ h0 (List.getElem?_eq_getElem (by omega))]
        · obtain rfl : k = 0 := by omega
          rw [hz rfl]
          have : ¬ c.at_ ≤ 0 := by omega
          simp [this]
      rw [same, Option.bind_some]
      by_cases h5 : c.at_ ≤ a
      · simp only [h5, decide_true, if_true]; exact Or.inl ⟨5, rfl, rfl, by decide⟩
      simp only [h5, decide_false, Bool.false_eq_true, if_false]
      by_cases h6 : (c.offset == o) = true
      · simp only [h6, if_true]; exact Or.inl ⟨1, rfl, rfl, by decide⟩
      simp only [h6, Bool.false_eq_true, if_false]
      refine Or.inr ⟨_, _, rfl, rfl, rfl, fun h => absurd h (by omega), ?_, ?_, ?_⟩
      · intro j d hj hd
        rcases Nat.lt_or_eq_of_le (Nat.le_of_lt_succ hj) with h | rfl
        · exact hall j d h hd
        · rw [hc] at hd; cases hd; exact ⟨hat.1, hat.2, hco.1, hco.2⟩
      · intro j d1 d2 hj h1' h2'
        rcases Nat.lt_or_eq_of_le (Nat.le_of_lt_succ hj) with h | rfl
        · exact hord j d1 d2 h h1' h2'
        · rw [hc] at h2'; cases h2'
          have := hprev d1 (by omega) (by simpa using h1')
          omega
      · intro d _ hd
        rw [Nat.add_sub_cancel, hc] at hd; cases hd; rfl
    · have e2 : cal_within c.at_ 1 3000000 = false := by rw [hin]; simp; omega
      have e1 : (if (decide (c.at_ < 1)) = true then (some true) else (if (decide ((3000000 : Int) < c.at_)) = true then (some true) else (some (portref2_ZoneFault_1 c.offset)))) = some true := by
        by_cases h : c.at_ < 1
        · simp [h]
        · have : (3000000 : Int) < c.at_ := by omega
          simp [h, this]
      simp only [e1, e2, if_true, Bool.not_false, Bool.true_or, Option.bind_some]
      exact Or.inl ⟨2, rfl, rfl, by decide⟩
end Go.Proofs.YtebbjefkndfkpaaGreatDoor.M
