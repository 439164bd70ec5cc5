import Derived.Test.YtfbiebageicnaaaGreatDoorLevelClocksLvlCheck
namespace Go.Proofs.YtfbiebageicnaaaGreatDoor.M
open Go Go.Pu
set_option linter.unusedSimpArgs false
set_option linter.unusedVariables false
theorem indexT_val (s : List level_Test) (f : level_Test → Option Bool) (q : level_Test → Bool) (hf : ∀ x ∈ s, f x = some (q x)) : slices_ContainsFunc_Llevel_Test_level_Test s f = slices_ContainsFunc_Llevel_Test_level_Test s (fun x => some (q x)) := by
 unfold slices_ContainsFunc_Llevel_Test_level_Test slices_IndexFunc_Llevel_Test_level_Test
 congr 2
 refine rangeB_congr s.length () fun k _ hk => ?_
 have hx : s[k]? = some s[k] := List.getElem?_eq_getElem hk
 have := hf _ (List.getElem_mem hk)
 rw [idx_nat, hx, Option.bind_some, Option.bind_some, this]
theorem containsT_some (s : List level_Test) (q : level_Test → Bool) : ∃ b, slices_ContainsFunc_Llevel_Test_level_Test s (fun x => some (q x)) = some b := by
 unfold slices_ContainsFunc_Llevel_Test_level_Test slices_IndexFunc_Llevel_Test_level_Test
 have h := rangeB_index s q
 rw [h]
 simp only [Option.bind_some]
 split <;> exact ⟨_, rfl⟩
theorem indexL_val (s : List level_Level) (f g : level_Level → Option Bool) (q : level_Level → Bool) (hf : ∀ x ∈ s, f x = some (q x)) (hg : ∀ x ∈ s, g x = some (q x)) : ∃ r, slices_IndexFunc_Llevel_Level_level_Level s f = some r ∧ slices_IndexFunc_Llevel_Level_level_Level s g = some r ∧ -1 ≤ r ∧ r < s.length := by
 have key : ∀ h : level_Level → Option Bool, (∀ x ∈ s, h x = some (q x)) → slices_IndexFunc_Llevel_Level_level_Level s h = slices_IndexFunc_Llevel_Level_level_Level s (fun x => some (q x)) := by
  intro h hh
  unfold slices_IndexFunc_Llevel_Level_level_Level
  congr 1
  refine rangeB_congr s.length () fun k _ hk => ?_
  have hx : s[k]? = some s[k] := List.getElem?_eq_getElem hk
  have := hh _ (List.getElem_mem hk)
  rw [idx_nat, hx, Option.bind_some, Option.bind_some, this]
 rw [key f hf, key g hg]
 unfold slices_IndexFunc_Llevel_Level_level_Level
 have h := rangeB_index s q
 rw [h]
 cases hf : s.findIdx? q with
 | none => exact ⟨-1, rfl, rfl, by decide, by omega⟩
 | some i =>
  rw [List.findIdx?_eq_some_iff_getElem] at hf
  obtain ⟨hi, _⟩ := hf
  exact ⟨(i : Int), rfl, rfl, by omega, by omega⟩
def valueAt (t : level_Test) (priority : Int) (values : List api_Value) : api_Value := if t.field < 0 then ⟨2, priority, ByteArray.empty⟩ else (values[t.field.toNat]?).getD ⟨0, 0, ByteArray.empty⟩
def failsB (t : level_Test) (priority : Int) (values : List api_Value) : Bool := !((valueAt t priority values).kind == t.value.kind && ((valueAt t priority values).int == t.value.int && (strEq (valueAt t priority values).text t.value.text)))
theorem atV (t : level_Test) (priority : Int) (values : List api_Value) (h : 0 ≤ t.field) : (if (decide (t.field < (values.length : Int))) = true then Option.bind (idx values t.field) fun x55 => some x55 else some (⟨0, 0, ByteArray.empty⟩ : api_Value)) = some (valueAt t priority values) := by
 obtain ⟨n, hn⟩ := Int.eq_ofNat_of_zero_le h
 have hv : valueAt t priority values = (values[n]?).getD ⟨0, 0, ByteArray.empty⟩ := by
  unfold valueAt
  rw [hn, if_neg (by omega), Int.toNat_natCast]
 rw [hv, hn]
 by_cases hl : n < values.length
 ·rw [if_pos (decide_eq_true (by omega)), idx_nat, List.getElem?_eq_getElem hl]
  rfl
 ·rw [if_neg (by simp; omega), List.getElem?_eq_none (by omega)]
  rfl
theorem testA (t : level_Test) (priority : Int) (values : List api_Value) (h : -1 ≤ t.field) : level_Policy_levelOf_1_1 t priority values = some (failsB t priority values) := by
 unfold level_Policy_levelOf_1_1
 by_cases h0 : t.field = -1
 ·rw [if_pos (by simpa using h0)]
  have : valueAt t priority values = ⟨2, priority, ByteArray.empty⟩ := by unfold valueAt; rw [if_pos (by omega)]
  unfold failsB
  rw [this]
  rfl
 ·rw [if_neg (by simpa using h0), atV t priority values (by omega)]
  rfl
theorem testB (t : level_Test) (priority : Int) (values : List api_Value) (h : -1 ≤ t.field) : portref2_levelIn_1_1 t priority values = some (failsB t priority values) := by
 unfold portref2_levelIn_1_1
 by_cases h0 : t.field < 0
 ·rw [if_pos (decide_eq_true h0)]
  have : valueAt t priority values = ⟨2, priority, ByteArray.empty⟩ := by unfold valueAt; rw [if_pos h0]
  unfold failsB
  rw [this]
  rfl
 ·rw [if_neg (by simpa using h0), atV t priority values (by omega)]
  rfl
theorem level_eq2 (p : level_Policy) (priority : Int) (values : List api_Value) (hok : ∀ l ∈ p.levels, TestsOk l) : ∃ n, level_Policy_levelOf p priority values = some n ∧ portref2_levelIn p priority values = some n ∧ -1 ≤ n ∧ n < p.levels.length := by
 unfold level_Policy_levelOf portref2_levelIn
 have hq : ∀ l : level_Level, ∃ b, slices_ContainsFunc_Llevel_Test_level_Test l.tests (fun x => some (failsB x priority values)) = some b := fun l => containsT_some _ _
 obtain ⟨k, k1, k2, k3, k4⟩ := indexL_val p.levels (fun y33 => level_Policy_levelOf_1 y33 priority values) (fun y33 => portref2_levelIn_1 y33 priority values) (fun l => !((slices_ContainsFunc_Llevel_Test_level_Test l.tests (fun x => some (failsB x priority values))).getD false))
  (fun l hl => by
   unfold level_Policy_levelOf_1
   rw [indexT_val l.tests _ (fun x => failsB x priority values) fun x hx => testA x priority values (hok l hl x hx).1]
   obtain ⟨b, hb⟩ := hq l
   rw [hb]
   rfl)
  (fun l hl => by
   unfold portref2_levelIn_1
   rw [indexT_val l.tests _ (fun x => failsB x priority values) fun x hx => testB x priority values (hok l hl x hx).1]
   obtain ⟨b, hb⟩ := hq l
   rw [hb]
   rfl)
 rw [k1, k2]
 exact ⟨k, rfl, rfl, k3, k4⟩
end Go.Proofs.YtfbiebageicnaaaGreatDoor.M
