import Derived.Test.YtfbiebageicnaaaGreatDoorLevelClocksLvlPolicy
namespace Go.Proofs.YtfbiebageicnaaaGreatDoor.M
open Go Go.Pu
set_option linter.unusedSimpArgs false
set_option linter.unusedVariables false
theorem level_eq (l : level_Level) (hl : l.targets.length ≤ 9223372036854775807) : ∃ r, level_checkLevel l = some r ∧ (r = 0 → TestsOk l) ∧
  (if (decide ((8 : Int) < (l.tests.length : Int))) = true then
    some 4
   else
    Option.bind (rangeB (fun k65 (_ : Unit) => Option.bind (idx l.tests (k65 : Int)) fun x84 => if ((decide (x84.field < (-1))) || (decide ((20 : Int) ≤ x84.field))) = true then some (.rt 2) else Option.bind (if (decide ((0 : Int) < (k65 : Int))) = true then (Option.bind (idx l.tests (w64 ((k65 : Int) - 1))) fun x109 => some (decide (x84.field ≤ x109.field))) else (some false)) fun s103 => if s103 = true then some (.rt 5) else Option.bind (portref2_testFault x84) fun x119 => if (x119 != 0) = true then some (.rt x119) else some (.nx ())) l.tests.length 0 ()) fun o62 => o62.andThen (fun y => some y) fun s63 =>
    Option.bind (rangeB (fun k134 (_ : Unit) => Option.bind (idx l.targets (k134 : Int)) fun x153 => if ((((((decide (x153.kind < 1)) || (decide ((3 : Int) < x153.kind))) || (decide (x153.minutes < 0))) || (decide ((100000 : Int) < x153.minutes))) || (decide (x153.calendar < 0))) || (decide ((20 : Int) ≤ x153.calendar))) = true then some (.rt 2) else Option.bind (if (decide ((0 : Int) < (k134 : Int))) = true then (Option.bind (idx l.targets (w64 ((k134 : Int) - 1))) fun x190 => some (decide (x153.kind ≤ x190.kind))) else (some false)) fun s184 => if s184 = true then some (.rt 5) else some (.nx ())) l.targets.length 0 ()) fun o131 => o131.andThen (fun y => some y) fun s132 =>
    some 0) = some r := by
 unfold level_checkLevel
 by_cases h : (decide ((8 : Int) < (l.tests.length : Int))) = true
 ·rw [if_pos h, if_pos h]
  exact ⟨4, rfl, fun h => absurd h (by decide), rfl⟩
 rw [if_neg h, if_neg h]
 rcases tests_eq l (by simp at h; omega) with ⟨r, h3, h1, h2⟩ | ⟨t, h1, h2, h3⟩
 ·rw [h1, h2]
  exact ⟨r, rfl, fun h => absurd h h3, rfl⟩
 ·rw [h1, h2]
  simp only [Option.bind_some, Lp.andThen_fin]
  rcases targets_eq l hl with ⟨r, k3, k1, k2⟩ | ⟨k1, k2⟩
  ·rw [k1, k2]
   exact ⟨r, rfl, fun h => absurd h k3, rfl⟩
  ·rw [k1, k2]
   exact ⟨0, rfl, fun _ => h3, rfl⟩
theorem mapGet_put (l : List (ByteArray × Bool)) (k k' : ByteArray) : (mapGet (mapPut l k true) k').getD false = ((mapGet l k').getD false || decide (k = k')) := by
 by_cases hk : k = k'
 ·subst hk
  rw [decide_eq_true rfl, Bool.or_true]
  unfold mapPut
  split
  ·rename_i h
   induction l with
   | nil => obtain ⟨p, hp, _⟩ := h; cases hp
   | cons p l ih =>
    rw [List.map_cons, mapGet]
    by_cases hp : p.1 = k
    ·simp [hp]
    ·rw [if_neg hp, if_neg hp]
     refine ih ?_
     obtain ⟨q, hq, hqk⟩ := h
     rcases List.mem_cons.1 hq with rfl | hq
     ·exact absurd hqk hp
     ·exact ⟨q, hq, hqk⟩
  ·rename_i h
   induction l with
   | nil => simp [mapGet]
   | cons p l ih =>
    have hp : p.1 ≠ k := fun e => h ⟨p, List.mem_cons_self .., e⟩
    rw [List.cons_append, mapGet, if_neg hp]
    exact ih fun ⟨q, hq, hqk⟩ => h ⟨q, List.mem_cons_of_mem _ hq, hqk⟩
 ·rw [decide_eq_false hk, Bool.or_false]
  congr 1
  unfold mapPut
  split
  ·rename_i h
   clear h
   induction l with
   | nil => rfl
   | cons p l ih =>
    rw [List.map_cons, mapGet]
    by_cases hp : p.1 = k
    ·have : p.1 ≠ k' := fun e => hk (hp.symm.trans e)
     rw [if_pos hp, if_neg hk, ih, mapGet, if_neg this]
    ·rw [if_neg hp, ih]
     conv => rhs; rw [mapGet]
  ·rename_i h
   clear h
   induction l with
   | nil => simp [mapGet, hk]
   | cons p l ih =>
    rw [List.cons_append, mapGet, ih]
    conv => rhs; rw [mapGet]
theorem strEq_iff (a b : ByteArray) : strEq a b = decide (a = b) := by
 rw [Bool.eq_iff_iff, decide_eq_true_eq]
 unfold strEq
 rw [ByteArray.toList_eq, ByteArray.toList_eq, beq_iff_eq]
 constructor
 ·intro h
  apply ByteArray.ext
  exact Array.toList_inj.1 h
 ·rintro rfl
  rfl
theorem sliceL_take (l : List level_Level) (k : Nat) (h : k ≤ l.length) : sliceL l none (some (k : Int)) = some (l.take k) := by
 unfold sliceL bounds
 simp
 omega
theorem containsL_val (s : List level_Level) (q : level_Level → Bool) : slices_ContainsFunc_Llevel_Level_level_Level s (fun x => some (q x)) = some (s.any q) := by
 have key : ∀ (m : List level_Level) (k : Nat), forL (R := Int) (fun k x (_ : Unit) => if q x = true then some (.rt (k : Int)) else some (.nx ())) m k () = some (.fin ()) ∧ m.any q = false ∨ ∃ j : Nat, forL (R := Int) (fun k x (_ : Unit) => if q x = true then some (.rt (k : Int)) else some (.nx ())) m k () = some (.rt (j : Int)) ∧ m.any q = true := by
  intro m
  induction m with
  | nil => intro k; exact .inl ⟨rfl, rfl⟩
  | cons x m ih =>
   intro k
   rw [forL]
   cases hq : q x with
   | true => exact .inr ⟨k, by simp, by simp [hq]⟩
   | false =>
    simp only [Bool.false_eq_true, if_false, List.any_cons, hq, Bool.false_or]
    exact ih (k + 1)
 unfold slices_ContainsFunc_Llevel_Level_level_Level slices_IndexFunc_Llevel_Level_level_Level
 have e : rangeB (R := Int) (fun k6 (_ : Unit) => Option.bind (idx s (k6 : Int)) fun x25 => Option.bind (some (q x25)) fun x34 => if x34 = true then some (.rt (k6 : Int)) else some (.nx ())) s.length 0 () = forL (R := Int) (fun k x (_ : Unit) => if q x = true then some (.rt (k : Int)) else some (.nx ())) s 0 () := by
  refine rangeB_forL s _ _ ?_ _
  intro k _ x hx
  rw [idx_nat, hx]
  rfl
 rw [e]
 rcases key s 0 with ⟨h1, h2⟩ | ⟨j, h1, h2⟩
 ·rw [h1, h2]
  rfl
 ·rw [h1, h2]
  simp [Lp.andThen]
theorem policy_eq (p : level_Policy) (hn : ∀ l ∈ p.levels, l.name.size ≤ 9223372036854775807 ∧ l.targets.length ≤ 9223372036854775807) (hp : p.pauses.length ≤ 9223372036854775807) : ∃ r, level_CheckPolicy p = some r ∧ portref2_PolicyFault p = some r ∧ (r = 0 → ∀ l ∈ p.levels, TestsOk l) := by
 unfold level_CheckPolicy portref2_PolicyFault
 rcases rangeB_sim (R := Int) (b := fun k18 (_ : Unit) => Option.bind (idx p.pauses (k18 : Int)) fun x33 => if (!(level_within x33 1 4)) = true then some (.rt 2) else Option.bind (if (decide ((0 : Int) < (k18 : Int))) = true then (Option.bind (idx p.pauses (w64 ((k18 : Int) - 1))) fun x44 => some (decide (x33 ≤ x44))) else (some false)) fun s39 => if s39 = true then some (.rt 5) else some (.nx ()))
  (b' := fun k19 (_ : Unit) => Option.bind (idx p.pauses (k19 : Int)) fun x34 => if ((decide (x34 < 1)) || (decide ((4 : Int) < x34))) = true then some (.rt 2) else Option.bind (if (decide ((0 : Int) < (k19 : Int))) = true then (Option.bind (idx p.pauses (w64 ((k19 : Int) - 1))) fun x47 => some (decide (x34 ≤ x47))) else (some false)) fun s42 => if s42 = true then some (.rt 5) else some (.nx ())) p.pauses.length (fun r => r ≠ 0) (fun _ _ _ => True) (s := ()) (s' := ()) trivial
  (by
   rintro k _ _ hk _
   have hx : p.pauses[k]? = some p.pauses[k] := List.getElem?_eq_getElem hk
   generalize p.pauses[k] = x at hx
   have hm : (!(level_within x 1 4)) = ((decide (x < 1)) || (decide ((4 : Int) < x))) := by
    rw [Bool.eq_iff_iff]; simp [level_within]
   obtain ⟨b, hb⟩ : ∃ b : Bool, (if (decide ((0 : Int) < (k : Int))) = true then (Option.bind (idx p.pauses (w64 ((k : Int) - 1))) fun x44 => some (decide (x ≤ x44))) else (some false)) = some b := by
    by_cases h0 : (0 : Int) < (k : Int)
    ·have hw : w64 ((k : Int) - 1) = ((k - 1 : Nat) : Int) := by rw [w64_id (by omega) (by omega)]; omega
     rw [if_pos (by simpa using h0), hw, idx_lt _ _ (by omega)]
     exact ⟨_, rfl⟩
    ·rw [if_neg (by simpa using h0)]
     exact ⟨_, rfl⟩
   simp only [idx_nat, hx, Option.bind_some, hm, hb]
   by_cases h1 : ((decide (x < 1)) || (decide ((4 : Int) < x))) = true
   ·simp only [h1, if_true]
    exact .inl ⟨2, rfl, rfl, by decide⟩
   simp only [h1, Bool.false_eq_true, if_false]
   cases b with
   | true => exact .inl ⟨5, rfl, rfl, by decide⟩
   | false => exact .inr ⟨(), (), rfl, rfl, trivial⟩) with ⟨r, h1, h2, h3⟩ | ⟨_, _, h1, h2, _⟩
 ·rw [h1, h2]
  exact ⟨r, rfl, rfl, fun h => absurd h h3⟩
 rw [h1, h2]
 simp only [Option.bind_some, Lp.andThen_fin]
 by_cases h : (decide ((20 : Int) < (p.levels.length : Int))) = true
 ·rw [if_pos h, if_pos h]
  exact ⟨4, rfl, rfl, fun h => absurd h (by decide)⟩
 rw [if_neg h, if_neg h]
 rcases rangeB_sim (R := Int) (b := fun k69 s75 => Option.bind (idx p.levels (k69 : Int)) fun x88 => Option.bind (level_name x88.name) fun x112 => if (!x112) = true then some (.rt 3) else if ((mapGet s75 x88.name).getD false) = true then some (.rt 6) else Option.bind (level_checkLevel x88) fun x125 => if (x125 != 0) = true then some (.rt x125) else some (.nx (mapPut s75 x88.name true)))
  (b' := fun k69 (_ : Unit) => Option.bind (portref2_levelFault p.levels (k69 : Int)) fun x92 => if (x92 != 0) = true then some (.rt x92) else some (.nx ())) p.levels.length (fun r => r ≠ 0) (fun k s _ => (∀ nm, (mapGet s nm).getD false = (p.levels.take k).any fun y => decide (y.name = nm)) ∧ ∀ (j : Nat) (l : level_Level), j < k → p.levels[j]? = some l → TestsOk l) (s := ([] : List (ByteArray × Bool))) (s' := ()) ⟨fun nm => by simp [mapGet], fun j l h => absurd h (Nat.not_lt_zero _)⟩
  (by
   rintro k s _ hk ⟨i1, i2⟩
   have hx : p.levels[k]? = some p.levels[k] := List.getElem?_eq_getElem hk
   have hsz := hn _ (List.getElem_mem hk)
   generalize p.levels[k] = x at hx hsz
   obtain ⟨r, l1, l2, l3⟩ := level_eq x hsz.2
   have ht : (p.levels.take k).any (fun y => strEq y.name x.name) = (mapGet s x.name).getD false := by
    rw [i1]
    congr 1
    funext y
    exact strEq_iff _ _
   unfold portref2_levelFault
   rw [idx_nat, hx, Option.bind_some, Option.bind_some, name_val _ hsz.1, isName_val, Option.bind_some, Option.bind_some]
   generalize (x.name.data.toList.all okB && ((!(strEq x.name (⟨#[]⟩ : ByteArray))) && (decide ((x.name.size : Int) ≤ 20)))) = nm
   cases nm with
   | false => exact .inl ⟨3, rfl, rfl, by decide⟩
   | true =>
    simp only [Bool.not_true, Bool.false_eq_true, if_false, sliceL_take p.levels k (by omega), Option.bind_some, portref2_levelFault_1, containsL_val, ht]
    cases hg : (mapGet s x.name).getD false with
    | true => exact .inl ⟨6, rfl, rfl, by decide⟩
    | false =>
     simp only [Bool.false_eq_true, if_false, l1, Option.bind_some]
     rw [l3, Option.bind_some]
     by_cases h0 : r = 0
     ·subst h0
      refine .inr ⟨_, (), rfl, rfl, fun nm => ?_, fun j l hj hl => ?_⟩
      ·rw [mapGet_put, i1, List.take_add_one, hx, List.any_append]
       simp
      ·rcases Nat.lt_or_eq_of_le (Nat.le_of_lt_succ hj) with h4 | rfl
       ·exact i2 j l h4 hl
       ·rw [hx] at hl
        cases hl
        exact l2 rfl
     ·have : (r != 0) = true := by simpa using h0
      simp only [this, if_true]
      exact .inl ⟨r, rfl, rfl, h0⟩) with ⟨r, g1, g2, g3⟩ | ⟨t, u, g1, g2, _, g3⟩
 ·rw [g1, g2]
  exact ⟨r, rfl, rfl, fun h => absurd h g3⟩
 ·rw [g1, g2]
  refine ⟨0, rfl, rfl, fun _ l hl => ?_⟩
  obtain ⟨j, hj⟩ := List.getElem?_of_mem hl
  exact g3 j l (List.getElem?_eq_some_iff.1 hj).1 hj
end Go.Proofs.YtfbiebageicnaaaGreatDoor.M
