/-
  The zone laws: plain part.
-/
import Derived.Test.YtjmgafmjendnaaaCalZonesM
import Derived.Test.YtjmgafmjendnaaaPl
namespace Go.Proofs.Ytjmgafmjendnaaa.M
open Go Go.Pu

def ZoneOk (z : cal_Zone) : Prop := (-1440 ≤ z.offset ∧ z.offset ≤ 1440) ∧ ∀ c ∈ z.changes, -1440 ≤ c.offset ∧ c.offset ≤ 1440

theorem zoneFault_bad (n : Int) : (!(cal_within n (-1440) 1440)) = portref2_ZoneFault_1 n := by
  simp only [cal_within, portref2_ZoneFault_1]
  rw [Bool.eq_iff_iff]
  simp

theorem zone_eq (z : cal_Zone) : ∃ r, cal_CheckZone z = some r ∧ portref2_ZoneFault z = some r ∧ (r = 0 → ZoneOk z) := by
  unfold cal_CheckZone portref2_ZoneFault
  rw [zoneFault_bad]
  by_cases h1 : portref2_ZoneFault_1 z.offset = true
  · simp only [h1, if_true]; exact ⟨2, rfl, rfl, fun h => absurd h (by decide)⟩
  simp only [h1, if_false]
  by_cases h2 : (60 : Int) < (z.changes.length : Int)
  · simp only [h2, decide_true, if_true]; exact ⟨4, rfl, rfl, fun h => absurd h (by decide)⟩
  simp only [h2, decide_false, Bool.false_eq_true, if_false]
  simp only [zoneFault_bad]
  have hoff : -1440 ≤ z.offset ∧ z.offset ≤ 1440 := by
    simp [portref2_ZoneFault_1] at h1; omega
  have sim := rangeB_sim (R := Int) z.changes.length
    (b := fun (k34 : Nat) (s35 : Int × Int) => Option.bind (idx z.changes (k34 : Int)) fun x45 => if ((!(cal_within x45.at_ 1 3000000)) || portref2_ZoneFault_1 x45.offset) = true then some (.rt 2) else if (decide (x45.at_ ≤ s35.1)) = true then some (.rt 5) else if (x45.offset == s35.2) = true then some (.rt 1) else some (.nx (x45.at_, x45.offset)))
    (b' := fun k32 s33 => Option.bind (idx z.changes (k32 : Int)) fun x43 => Option.bind (if ((decide (x43.at_ < 1)) || (decide ((3000000 : Int) < x43.at_))) = true then (some true) else (some (portref2_ZoneFault_1 x43.offset))) fun s61 => if s61 = true then some (.rt 2) else Option.bind (if (decide ((0 : Int) < (k32 : Int))) = true then (Option.bind (idx z.changes (w64 ((k32 : Int) - 1))) fun x75 => some (decide (x43.at_ ≤ x75.at_))) else (some false)) fun s68 => if s68 = true then some (.rt 5) else if (x43.offset == s33) = true then some (.rt 1) else some (.nx x43.offset))
    (s := (0, z.offset)) (s' := z.offset)
    (fun r => r ≠ 0) (fun k s s' => s.2 = s' ∧ (k = 0 → s.1 = 0) ∧ (∀ j c, j < k → z.changes[j]? = some c → -1440 ≤ c.offset ∧ c.offset ≤ 1440) ∧ ∀ c, 0 < k → z.changes[k - 1]? = some c → s.1 = c.at_)
    ⟨rfl, fun _ => rfl, fun j c h => absurd h (Nat.not_lt_zero _), fun c h => absurd h (Nat.lt_irrefl _)⟩ ?_
  · rcases sim with ⟨r, e1, e2, hr⟩ | ⟨t, t', e1, e2, hI⟩
    · rw [e1, e2]
      exact ⟨r, rfl, rfl, fun h => absurd h hr⟩
    · rw [e1, e2]
      refine ⟨0, rfl, rfl, fun _ => ⟨hoff, fun c hc => ?_⟩⟩
      obtain ⟨j, hj, rfl⟩ := List.mem_iff_getElem.1 hc
      exact hI.2.2.1 j _ hj (List.getElem?_eq_getElem hj)
  · rintro k ⟨a, o⟩ s' hk ⟨rfl, hz, hall, hprev⟩
    simp only at hz hprev ⊢
    obtain ⟨c, hc⟩ : ∃ c, z.changes[k]? = some c := ⟨_, List.getElem?_eq_getElem hk⟩
    have hw : w64 ((k : Int) - 1) = (k : Int) - 1 := w64_id (by omega) (by omega)
    simp only [idx_nat, hc, Option.bind_some, hw]
    have hin : cal_within c.at_ 1 3000000 = (decide (1 ≤ c.at_) && decide (c.at_ ≤ 3000000)) := rfl
    by_cases hat : 1 ≤ c.at_ ∧ c.at_ ≤ 3000000
    · have e1 : (decide (c.at_ < 1) || decide ((3000000 : Int) < c.at_)) = false := by simp; omega
      have e2 : cal_within c.at_ 1 3000000 = true := by rw [hin]; simp [hat]
      simp only [e1, e2, Bool.not_true, Bool.false_or, Bool.false_eq_true, if_false, Option.bind_some]
      by_cases hb : portref2_ZoneFault_1 c.offset = true
      · simp only [hb, if_true]; exact Or.inl ⟨2, rfl, rfl, by decide⟩
      simp only [hb, Bool.false_eq_true, if_false]
      have hco : -1440 ≤ c.offset ∧ c.offset ≤ 1440 := by simp [portref2_ZoneFault_1] at hb; omega
      have same : (if (decide ((0 : Int) < (k : Int))) = true then (Option.bind (idx z.changes ((k : Int) - 1)) fun x75 => some (decide (c.at_ ≤ x75.at_))) else (some false)) = some (decide (c.at_ ≤ a)) := by
        by_cases h0 : 0 < k
        · have : (0 : Int) < (k : Int) := by omega
          simp only [this, decide_true, if_true]
          rw [show (k : Int) - 1 = ((k - 1 : Nat) : Int) by omega, idx_lt _ _ (by omega), Option.bind_some, hprev _ h0 (List.getElem?_eq_getElem (by omega))]
        · obtain rfl : k = 0 := by omega
          rw [hz rfl]
          have : ¬ c.at_ ≤ 0 := by omega
          simp [this]
      rw [same, Option.bind_some]
      by_cases h5 : c.at_ ≤ a
      · simp only [h5, decide_true, if_true]; exact Or.inl ⟨5, rfl, rfl, by decide⟩
      simp only [h5, decide_false, Bool.false_eq_true, if_false]
      by_cases h6 : (c.offset == o) = true
      · simp only [h6, if_true]; exact Or.inl ⟨1, rfl, rfl, by decide⟩
      simp only [h6, Bool.false_eq_true, if_false]
      refine Or.inr ⟨_, _, rfl, rfl, rfl, fun h => absurd h (by omega), ?_, ?_⟩
      · intro j d hj hd
        rcases Nat.lt_or_eq_of_le (Nat.le_of_lt_succ hj) with h | rfl
        · exact hall j d h hd
        · rw [hc] at hd; cases hd; exact hco
      · intro d _ hd
        rw [Nat.add_sub_cancel, hc] at hd; cases hd; rfl
    · have e1 : (decide (c.at_ < 1) || decide ((3000000 : Int) < c.at_)) = true := by simp; omega
      have e2 : cal_within c.at_ 1 3000000 = false := by rw [hin]; simp; omega
      simp only [e1, e2, if_true, Bool.not_false, Bool.true_or, Option.bind_some]
      exact Or.inl ⟨2, rfl, rfl, by decide⟩

theorem offset_ok (z : cal_Zone) (m : Int) : ∃ x, cal_Zone_offsetAt z m = some x ∧ (ZoneOk z → -1440 ≤ x ∧ x ≤ 1440) := by
  unfold cal_Zone_offsetAt
  obtain ⟨t, h, hI⟩ := rangeB_inv (R := Int) (b := fun k21 s22 => Option.bind (Option.bind (idx z.changes (k21 : Int)) fun x35 => Option.bind (if (decide (x35.at_ ≤ m)) = true then some x35.offset else some s22) fun s49 => some s49) fun s33 => some (.nx s33)) z.changes.length
    (fun _ x => ZoneOk z → -1440 ≤ x ∧ x ≤ 1440) (s := z.offset) (fun h => h.1) (by
      intro k s hk hI
      rw [idx_lt _ _ hk]
      simp only [Option.bind_some]
      by_cases hm : z.changes[k].at_ ≤ m
      · simp only [hm, decide_true, if_true]; exact ⟨_, rfl, fun h => h.2 _ (List.getElem_mem hk)⟩
      · simp only [hm, decide_false, Bool.false_eq_true, if_false]; exact ⟨_, rfl, hI⟩)
  rw [h]
  exact ⟨t, rfl, hI⟩

theorem or_two (a b : Int) : cmp_Or_api_Errno [a, b] = some (if a ≠ 0 then a else b) := by
  by_cases ha : a = 0 <;> by_cases hb : b = 0 <;> simp [cmp_Or_api_Errno, rangeB, idx, ha, hb, Lp.andThen]

theorem zones_true (z : cal_Zone) (m : Int) : portlaw2_CalZones z m = some true := by
  obtain ⟨r, e1, e2, hok⟩ := zone_eq z
  obtain ⟨x, hx, hxb⟩ := offset_ok z m
  have hin : portref2_OffsetIn z m = some x := hx
  unfold portlaw2_CalZones cal_OffsetAt cal_Local portref2_LocalIn
  simp only [e1, e2, hx, hin, or_two, Option.bind_some, bne_self_eq_false, Bool.false_eq_true, if_false]
  by_cases hr : r = 0
  · subst hr
    have hb := hxb (hok rfl)
    by_cases hm : 0 ≤ m ∧ m ≤ 3000000
    · have h1 : cal_moment m = 0 := by simp [cal_moment, cal_within, hm]
      have h2 : portref2_IsMoment m = true := by simp [portref2_IsMoment, hm]
      have hw : w64 (m + x) = m + x := w64_id (by omega) (by omega)
      simp only [h1, h2, hw, ne_eq, not_true, if_false, bne_self_eq_false, Bool.false_eq_true, Option.bind_some, Bool.not_true, Bool.and_false]
      have hdm := tdiv_spec (m + x) 1440 (by decide)
      have hq : quo (m + x) 1440 = some ((m + x).tdiv 1440) := by
        rw [quo, if_neg (by decide), w64_id (by omega) (by omega)]
      have hrm : rem (m + x) 1440 = some ((m + x).tmod 1440) := by
        rw [rem, if_neg (by decide)]
      unfold cal_floor portref2_floorDiv
      simp only [hq, hrm, Option.bind_some]
      by_cases hneg : (m + x).tmod 1440 < 0
      · simp only [hneg, decide_true, if_true, Option.bind_some]
        rw [w64_id (n := (m + x).tdiv 1440 - 1) (by omega) (by omega), w64_id (n := ((m + x).tdiv 1440 - 1) * 1440) (by omega) (by omega), w64_id (by omega) (by omega), w64_id (by omega) (by omega)]
        simp
        omega
      · simp only [hneg, decide_false, Bool.false_eq_true, if_false, Option.bind_some]
        rw [w64_id (n := (m + x).tdiv 1440 * 1440) (by omega) (by omega), w64_id (by omega) (by omega)]
        simp
        omega
    · have h1 : cal_moment m = 2 := by
        have : cal_within m 0 3000000 = false := by simp [cal_within]; omega
        simp [cal_moment, this]
      have h2 : portref2_IsMoment m = false := by simp [portref2_IsMoment]; omega
      simp [h1, h2]
  · simp [hr]
end Go.Proofs.Ytjmgafmjendnaaa.M
