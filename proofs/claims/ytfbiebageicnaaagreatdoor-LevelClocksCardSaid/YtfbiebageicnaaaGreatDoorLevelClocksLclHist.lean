import Derived.Test.YtfbiebageicnaaaGreatDoorLevelClocksLvlOk
namespace Go.Proofs.YtfbiebageicnaaaGreatDoor.M
open Go Go.Pu
set_option linter.unusedSimpArgs false
set_option linter.unusedVariables false
def PtOk (l : List level_Point) (k : Nat) : Prop := ∀ x, l[k]? = some x → (0 ≤ x.at_ ∧ x.at_ ≤ 3000000) ∧ (1 ≤ x.status ∧ x.status ≤ 6) ∧ ∀ j y, j + 1 = k → l[j]? = some y → y.at_ ≤ x.at_
theorem hist_eq (l : List level_Point) : ∃ h, level_CheckHistory l = some h ∧ portref2_HistoryFault l = some h ∧ (h = 0 → l.length ≤ 6000 ∧ ∀ k, PtOk l k) := by
 unfold level_CheckHistory portref2_HistoryFault
 by_cases c : (decide ((6000 : Int) < (l.length : Int))) = true
 ·rw [if_pos c, if_pos c]
  exact ⟨4, rfl, rfl, fun h => absurd h (by decide)⟩
 rw [if_neg c, if_neg c]
 rcases rangeB_sim (R := Int) (b := fun k7 (_ : Unit) => Option.bind (idx l (k7 : Int)) fun x27 => if (!(level_within x27.at_ 0 3000000)) = true then some (.rt 2) else Option.bind (if (decide ((0 : Int) < (k7 : Int))) = true then (Option.bind (idx l (w64 ((k7 : Int) - 1))) fun x50 => some (decide (x27.at_ < x50.at_))) else (some false)) fun s48 => if s48 = true then some (.rt 5) else if (!(level_within x27.kind 1 10)) = true then some (.rt 10) else if ((!(level_within x27.who (-1) 40)) || (!(level_within x27.status 1 6))) = true then some (.rt 2) else if (decide ((20 : Int) < (x27.values.length : Int))) = true then some (.rt 4) else some (.nx ()))
  (b' := fun k7 (_ : Unit) => Option.bind (idx l (k7 : Int)) fun x27 => if (!(portref2_IsMoment x27.at_)) = true then some (.rt 2) else Option.bind (if (decide ((0 : Int) < (k7 : Int))) = true then (Option.bind (idx l (w64 ((k7 : Int) - 1))) fun x50 => some (decide (x27.at_ < x50.at_))) else (some false)) fun s48 => if s48 = true then some (.rt 5) else if ((decide (x27.kind < 1)) || (decide ((10 : Int) < x27.kind))) = true then some (.rt 10) else if ((((decide (x27.who < (-1))) || (decide ((40 : Int) < x27.who))) || (decide (x27.status < 1))) || (decide ((6 : Int) < x27.status))) = true then some (.rt 2) else if (decide ((20 : Int) < (x27.values.length : Int))) = true then some (.rt 4) else some (.nx ()))
  l.length (fun r => r ≠ 0) (fun k _ _ => ∀ j, j < k → PtOk l j) (s := ()) (s' := ()) (fun j hj => by omega) (by
   intro k _ _ hk hI
   have hx : l[k]? = some l[k] := List.getElem?_eq_getElem hk
   generalize l[k] = x at hx
   have hxi : idx l (k : Int) = some x := by rw [idx_nat]; exact hx
   rw [hxi, Option.bind_some, Option.bind_some]
   have e1 : level_within x.at_ 0 3000000 = portref2_IsMoment x.at_ := rfl
   rw [e1]
   by_cases c1 : (!(portref2_IsMoment x.at_)) = true
   ·rw [if_pos c1]; try rw [if_pos c1]
    exact .inl ⟨2, rfl, rfl, by decide⟩
   rw [if_neg c1]; try rw [if_neg c1]
   have hb : ∃ b, (if (decide ((0 : Int) < (k : Int))) = true then (Option.bind (idx l (w64 ((k : Int) - 1))) fun x50 => some (decide (x.at_ < x50.at_))) else (some false)) = some b ∧ (b = false → ∀ j y, j + 1 = k → l[j]? = some y → y.at_ ≤ x.at_) := by
    by_cases h0 : k = 0
    ·subst h0
     exact ⟨false, rfl, fun _ j y hj => by omega⟩
    ·obtain ⟨j, rfl⟩ : ∃ j, k = j + 1 := ⟨k - 1, by omega⟩
     have hw : w64 (((j + 1 : Nat) : Int) - 1) = (j : Int) := by rw [w64_id (by omega) (by simp at c; omega)]; omega
     have hy : l[j]? = some (l[j]'(by omega)) := List.getElem?_eq_getElem (by omega)
     rw [if_pos (decide_eq_true (by omega)), hw, idx_nat, hy, Option.bind_some]
     refine ⟨_, rfl, fun hb i y hi hy' => ?_⟩
     obtain rfl : i = j := by omega
     rw [hy] at hy'
     obtain rfl := Option.some.inj hy'
     simpa using hb
   obtain ⟨b, hb1, hb2⟩ := hb
   rw [hb1, Option.bind_some, Option.bind_some]
   cases b with
   | true => exact .inl ⟨5, rfl, rfl, by decide⟩
   | false =>
    simp only [Bool.false_eq_true, if_false]
    have e2 : (!(level_within x.kind 1 10)) = ((decide (x.kind < 1)) || (decide ((10 : Int) < x.kind))) := by
     unfold level_within
     rw [Bool.eq_iff_iff]
     simp
     try omega
    rw [e2]
    by_cases c2 : ((decide (x.kind < 1)) || (decide ((10 : Int) < x.kind))) = true
    ·rw [if_pos c2]; try rw [if_pos c2]
     exact .inl ⟨10, rfl, rfl, by decide⟩
    rw [if_neg c2]; try rw [if_neg c2]
    have e3 : ((!(level_within x.who (-1) 40)) || (!(level_within x.status 1 6))) = ((((decide (x.who < (-1))) || (decide ((40 : Int) < x.who))) || (decide (x.status < 1))) || (decide ((6 : Int) < x.status))) := by
     unfold level_within
     rw [Bool.eq_iff_iff]
     simp
     try omega
    rw [e3]
    by_cases c3 : ((((decide (x.who < (-1))) || (decide ((40 : Int) < x.who))) || (decide (x.status < 1))) || (decide ((6 : Int) < x.status))) = true
    ·rw [if_pos c3]; try rw [if_pos c3]
     exact .inl ⟨2, rfl, rfl, by decide⟩
    rw [if_neg c3]; try rw [if_neg c3]
    by_cases c4 : (decide ((20 : Int) < (x.values.length : Int))) = true
    ·rw [if_pos c4]; try rw [if_pos c4]
     exact .inl ⟨4, rfl, rfl, by decide⟩
    rw [if_neg c4]; try rw [if_neg c4]
    refine .inr ⟨(), (), rfl, rfl, fun j hj => ?_⟩
    rcases Nat.lt_or_eq_of_le (Nat.le_of_lt_succ hj) with h4 | rfl
    ·exact hI j h4
    ·intro y hy
     rw [hx] at hy
     obtain rfl := Option.some.inj hy
     unfold portref2_IsMoment at c1
     simp at c1 c3
     exact ⟨by omega, by omega, hb2 rfl⟩) with ⟨r, h1, h2, h3⟩ | ⟨_, _, h1, h2, h3⟩
 ·rw [h1, h2]
  exact ⟨r, rfl, rfl, fun h => absurd h h3⟩
 ·rw [h1, h2]
  refine ⟨0, rfl, rfl, fun _ => ⟨by simp at c; omega, fun k => ?_⟩⟩
  by_cases hk : k < l.length
  ·exact h3 k hk
  ·intro x hx
   rw [List.getElem?_eq_none (by omega)] at hx
   cases hx
end Go.Proofs.YtfbiebageicnaaaGreatDoor.M
