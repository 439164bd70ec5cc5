import Derived.Test.YtfbiebageicnaaaGreatDoorLevelClocksLowRune
namespace Go.Proofs.YtfbiebageicnaaaGreatDoor.M
open Go Go.Pu
set_option linter.unusedSimpArgs false
set_option linter.unusedVariables false
theorem rangeB_congr {S R : Type} {b b' : Nat → S → Option (Ctl S R)} (n : Nat) (s : S) (h : ∀ k s, k < n → b k s = b' k s) : rangeB b n 0 s = rangeB b' n 0 s := by
 have key : ∀ m k s, k + m = n → rangeB b m k s = rangeB b' m k s := by
  intro m
  induction m with
  | zero => intro k s _; rfl
  | succ m ih =>
   intro k s hk
   rw [rangeB, rangeB, h k s (by omega)]
   rcases b' k s with _ | (t | t | r)
   ·rfl
   ·exact ih (k + 1) t (by omega)
   ·rfl
   ·rfl
 exact key n 0 s (by omega)
def numOk (t : level_Test) : Bool := if t.value.kind = 1 then level_within t.value.int 0 1 else if t.value.kind = 4 then level_within t.value.int 0 19 else if t.value.kind = 5 then level_within t.value.int 0 3000000 else if t.value.kind = 6 then level_within t.value.int 1 40 else true
theorem num1 (t : level_Test) : (Option.bind (if (t.value.kind == 1) = true then some (level_within t.value.int 0 1) else Option.bind (if (t.value.kind == 4) = true then some (level_within t.value.int 0 19) else Option.bind (if (t.value.kind == 5) = true then some (level_within t.value.int 0 3000000) else Option.bind (if (t.value.kind == 6) = true then some (level_within t.value.int 1 40) else some true) fun s79 => some s79) fun s70 => some s70) fun s61 => some s61) fun s52 => some s52) = some (numOk t) := by
 unfold numOk
 simp only [beq_iff_eq]
 split
 ·rfl
 ·split
  ·rfl
  ·split
   ·rfl
   ·split <;> rfl
theorem num2 (t : level_Test) : (if (((t.value.kind == 1) && (t.value.int != 0)) && (t.value.int != 1)) = true then some (((t.value.kind == 1) && (t.value.int != 0)) && (t.value.int != 1)) else Option.bind (if ((t.value.kind == 4) && ((decide (t.value.int < 0)) || (decide ((20 : Int) ≤ t.value.int)))) = true then some ((t.value.kind == 4) && ((decide (t.value.int < 0)) || (decide ((20 : Int) ≤ t.value.int)))) else Option.bind (if ((t.value.kind == 5) && (!(portref2_IsMoment t.value.int))) = true then some ((t.value.kind == 5) && (!(portref2_IsMoment t.value.int))) else some ((t.value.kind == 6) && ((decide (t.value.int < 1)) || (decide ((40 : Int) < t.value.int))))) fun s84 => some s84) fun s72 => some s72) = some (!(numOk t)) := by
 unfold numOk level_within portref2_IsMoment
 generalize t.value.kind = k
 generalize t.value.int = n
 have r1 : ((n != 0) && (n != 1)) = !(decide (0 ≤ n) && decide (n ≤ 1)) := by
  rw [Bool.eq_iff_iff]
  simp only [Bool.and_eq_true, bne_iff_ne, ne_eq, Bool.not_eq_true', Bool.and_eq_false_iff, decide_eq_false_iff_not]
  omega
 have r4 : (decide (n < 0) || decide ((20 : Int) ≤ n)) = !(decide (0 ≤ n) && decide (n ≤ 19)) := by
  rw [Bool.eq_iff_iff]
  simp only [Bool.or_eq_true, decide_eq_true_eq, Bool.not_eq_true', Bool.and_eq_false_iff, decide_eq_false_iff_not]
  omega
 have r6 : (decide (n < 1) || decide ((40 : Int) < n)) = !(decide (1 ≤ n) && decide (n ≤ 40)) := by
  rw [Bool.eq_iff_iff]
  simp only [Bool.or_eq_true, decide_eq_true_eq, Bool.not_eq_true', Bool.and_eq_false_iff, decide_eq_false_iff_not]
  omega
 rw [Bool.and_assoc, r1, r4, r6]
 generalize (decide (0 ≤ n) && decide (n ≤ 1)) = a
 generalize (decide (0 ≤ n) && decide (n ≤ 19)) = b
 generalize (decide (1 ≤ n) && decide (n ≤ 40)) = d
 generalize (decide ((0 : Int) ≤ n) && decide (n ≤ 3000000)) = e
 by_cases h1 : k = 1
 ·subst h1
  cases a <;> simp
 ·by_cases h4 : k = 4
  ·subst h4
   cases b <;> simp
  ·by_cases h5 : k = 5
   ·subst h5
    cases e <;> simp
   ·by_cases h6 : k = 6
    ·subst h6
     cases d <;> simp
    ·simp [h1, h4, h5, h6]
theorem low_loop (s : ByteArray) (hs : s.size ≤ 1000000) : ∃ o, whileB (fun (s103 : Int) => if (decide (s103 < (s.size : Int))) = true then Option.bind (idxS s s103) fun x114 => Option.bind (if (decide ((x114.toNat : Int) < 32)) = true then (some true) else (some ((x114.toNat : Int) == 127))) fun s116 => if s116 = true then some (.rt (9 : Int)) else some (.nx (w64 (s103 + 1))) else some (.bk s103)) 0 = some o ∧ ((o = .rt 9 ∧ s.data.toList.any lowb = true) ∨ (∃ t, o = .fin t ∧ s.data.toList.any lowb = false)) := by
 have hsz : s.data.toList.length = s.size := rfl
 exact whileB_spec (R := Int) (body := fun (s103 : Int) => if (decide (s103 < (s.size : Int))) = true then Option.bind (idxS s s103) fun x114 => Option.bind (if (decide ((x114.toNat : Int) < 32)) = true then (some true) else (some ((x114.toNat : Int) == 127))) fun s116 => if s116 = true then some (.rt (9 : Int)) else some (.nx (w64 (s103 + 1))) else some (.bk s103))
  (fun i => ∃ k : Nat, i = (k : Int) ∧ k ≤ s.size ∧ ∀ j b, j < k → s.data.toList[j]? = some b → lowb b = false) (fun i => s.size - i.toNat)
  (fun x => (x = .rt 9 ∧ s.data.toList.any lowb = true) ∨ (∃ t, x = .fin t ∧ s.data.toList.any lowb = false)) (s := 0)
  ⟨0, rfl, Nat.zero_le _, fun j b h => absurd h (Nat.not_lt_zero _)⟩
  (by
   rintro _ ⟨k, rfl, hk, hI⟩
   by_cases hlt : k < s.size
   ·have e : decide ((k : Int) < (s.size : Int)) = true := decide_eq_true (by omega)
    have hb : s.data.toList[k]? = some (s.data.toList[k]'(by omega)) := List.getElem?_eq_getElem (by omega)
    generalize s.data.toList[k]'(by omega) = b at hb
    have hw : w64 ((k : Int) + 1) = ((k + 1 : Nat) : Int) := by rw [w64_id (by omega) (by omega)]; omega
    have h1 : (if (decide ((b.toNat : Int) < 32)) = true then (some true) else (some ((b.toNat : Int) == 127))) = some (lowb b) := by
     unfold lowb
     by_cases h : (b.toNat : Int) < 32 <;> simp [h]
    simp only [e, if_true, idxS_nat, hb, Option.bind_some, hw, h1]
    by_cases hok : lowb b = true
    ·rw [if_pos hok]
     refine ⟨_, rfl, .inl ⟨rfl, ?_⟩⟩
     rw [List.any_eq_true]
     exact ⟨b, List.mem_of_getElem? hb, hok⟩
    ·rw [if_neg hok]
     refine ⟨_, rfl, ⟨k + 1, rfl, by omega, fun j c hj hc => ?_⟩, by simp only [Int.toNat_natCast]; omega⟩
     rcases Nat.lt_or_eq_of_le (Nat.le_of_lt_succ hj) with h | rfl
     ·exact hI j c h hc
     ·rw [hb] at hc; cases hc; simpa using hok
   ·have e : decide ((k : Int) < (s.size : Int)) = false := decide_eq_false (by omega)
    simp only [e, Bool.false_eq_true, if_false]
    refine ⟨_, rfl, .inr ⟨_, rfl, ?_⟩⟩
    rw [List.any_eq_false]
    intro b hb
    obtain ⟨j, hj, rfl⟩ := List.mem_iff_getElem.1 hb
    rw [hI j _ (by omega) (List.getElem?_eq_getElem hj)]
    simp)
theorem test_eq (t : level_Test) : ∃ r, (-1 ≤ t.field → portref2_testFault t = some r) ∧ ∀ before : Int, level_checkTest t before = some (if (!(level_within t.field (-1) 19)) = true then 2 else if t.field ≤ before then 5 else r) := by
 by_cases hf : -1 ≤ t.field
 rotate_left
 ·refine ⟨0, fun h => absurd h hf, fun before => ?_⟩
  have e : (!(level_within t.field (-1) 19)) = true := by simp [level_within]; omega
  unfold level_checkTest
  rw [if_pos e, if_pos e]
 have key : ∃ r, portref2_testFault t = some r ∧ (if ((!(level_within t.value.kind 0 6)) || ((t.field == (-1)) && (t.value.kind != 2))) = true then
    some 10
   else
    if (((t.value.int != 0) && ((t.value.kind == 0) || (t.value.kind == 3))) || ((!(strEq t.value.text (⟨#[]⟩ : ByteArray))) && (t.value.kind != 3))) = true then
     some 1
    else
     Option.bind (Option.bind (if (t.value.kind == 1) = true then some (level_within t.value.int 0 1) else Option.bind (if (t.value.kind == 4) = true then some (level_within t.value.int 0 19) else Option.bind (if (t.value.kind == 5) = true then some (level_within t.value.int 0 3000000) else Option.bind (if (t.value.kind == 6) = true then some (level_within t.value.int 1 40) else some true) fun s79 => some s79) fun s70 => some s70) fun s61 => some s61) fun s52 => some s52) fun s46 =>
     if (!s46) = true then
      some 2
     else
      if (decide ((200 : Int) < (t.value.text.size : Int))) = true then
       some 4
      else
       Option.bind (whileB (fun s103 => if (decide (s103 < (t.value.text.size : Int))) = true then Option.bind (idxS t.value.text s103) fun x114 => Option.bind (if (decide ((x114.toNat : Int) < 32)) = true then (some true) else (some ((x114.toNat : Int) == 127))) fun s116 => if s116 = true then some (.rt 9) else some (.nx (w64 (s103 + 1))) else some (.bk s103)) 0) fun o96 => o96.andThen (fun y => some y) fun s97 =>
       some 0) = some r := by
  unfold portref2_testFault
  have c1 : ((!(level_within t.value.kind 0 6)) || ((t.field == (-1)) && (t.value.kind != 2))) = (((decide (t.value.kind < 0)) || (decide ((6 : Int) < t.value.kind))) || ((decide (t.field < 0)) && (t.value.kind != 2))) := by
   have e1 : (!(level_within t.value.kind 0 6)) = ((decide (t.value.kind < 0)) || (decide ((6 : Int) < t.value.kind))) := by
    rw [Bool.eq_iff_iff]; simp [level_within]
   have e2 : (t.field == (-1)) = decide (t.field < 0) := by
    rw [Bool.eq_iff_iff]; simp; omega
   rw [e1, e2]
  have c2 : (if ((!(strEq t.value.text (⟨#[]⟩ : ByteArray))) && (t.value.kind != 3)) = true then some ((!(strEq t.value.text (⟨#[]⟩ : ByteArray))) && (t.value.kind != 3)) else some ((t.value.int != 0) && ((t.value.kind == 3) || (t.value.kind == 0)))) = some (((t.value.int != 0) && ((t.value.kind == 0) || (t.value.kind == 3))) || ((!(strEq t.value.text (⟨#[]⟩ : ByteArray))) && (t.value.kind != 3))) := by
   rw [Bool.or_comm (t.value.kind == 3)]
   generalize ((!(strEq t.value.text (⟨#[]⟩ : ByteArray))) && (t.value.kind != 3)) = a
   generalize ((t.value.int != 0) && ((t.value.kind == 0) || (t.value.kind == 3))) = b
   cases a <;> cases b <;> rfl
  rw [c1, num1, num2, c2]
  by_cases h1 : (((decide (t.value.kind < 0)) || (decide ((6 : Int) < t.value.kind))) || ((decide (t.field < 0)) && (t.value.kind != 2))) = true
  ·rw [if_pos h1, if_pos h1]
   exact ⟨_, rfl, rfl⟩
  rw [if_neg h1, if_neg h1, Option.bind_some]
  by_cases h2 : (((t.value.int != 0) && ((t.value.kind == 0) || (t.value.kind == 3))) || ((!(strEq t.value.text (⟨#[]⟩ : ByteArray))) && (t.value.kind != 3))) = true
  ·rw [if_pos h2, if_pos h2]
   exact ⟨_, rfl, rfl⟩
  rw [if_neg h2, if_neg h2, Option.bind_some, Option.bind_some]
  by_cases h3 : (!(numOk t)) = true
  ·rw [if_pos h3, if_pos h3]
   exact ⟨_, rfl, rfl⟩
  rw [if_neg h3, if_neg h3]
  by_cases h4 : (decide ((200 : Int) < (t.value.text.size : Int))) = true
  ·rw [if_pos h4, if_pos h4]
   exact ⟨_, rfl, rfl⟩
  rw [if_neg h4, if_neg h4, lowByte_val, Option.bind_some]
  obtain ⟨o, ho, hq⟩ := low_loop t.value.text (by simp at h4; omega)
  rw [ho, Option.bind_some]
  rcases hq with ⟨rfl, hl⟩ | ⟨u, rfl, hl⟩
  ·rw [hl, if_pos rfl]
   exact ⟨_, rfl, rfl⟩
  ·rw [hl, if_neg (by decide)]
   exact ⟨_, rfl, rfl⟩
 obtain ⟨r, k1, k2⟩ := key
 refine ⟨r, fun _ => k1, fun before => ?_⟩
 unfold level_checkTest
 by_cases h1 : (!(level_within t.field (-1) 19)) = true
 ·rw [if_pos h1, if_pos h1]
 rw [if_neg h1, if_neg h1]
 by_cases h2 : t.field ≤ before
 ·rw [if_pos (decide_eq_true h2), if_pos h2]
 rw [if_neg (by simpa using h2), if_neg h2, k2]
def TestsOk (l : level_Level) : Prop := ∀ t ∈ l.tests, -1 ≤ t.field ∧ t.field ≤ 19
theorem tests_eq (l : level_Level) (hl : l.tests.length ≤ 8) :
  (∃ r, r ≠ 0 ∧ rangeB (R := Int) (fun k23 s29 => Option.bind (idx l.tests (k23 : Int)) fun x42 => Option.bind (level_checkTest x42 s29) fun x56 => if (x56 != 0) = true then some (.rt x56) else some (.nx x42.field)) l.tests.length 0 (-2) = some (.rt r) ∧
   rangeB (fun k65 (_ : Unit) => Option.bind (idx l.tests (k65 : Int)) fun x84 => if ((decide (x84.field < (-1))) || (decide ((20 : Int) ≤ x84.field))) = true then some (.rt 2) else Option.bind (if (decide ((0 : Int) < (k65 : Int))) = true then (Option.bind (idx l.tests (w64 ((k65 : Int) - 1))) fun x109 => some (decide (x84.field ≤ x109.field))) else (some false)) fun s103 => if s103 = true then some (.rt 5) else Option.bind (portref2_testFault x84) fun x119 => if (x119 != 0) = true then some (.rt x119) else some (.nx ())) l.tests.length 0 () = some (.rt r)) ∨
  (∃ t, rangeB (R := Int) (fun k23 s29 => Option.bind (idx l.tests (k23 : Int)) fun x42 => Option.bind (level_checkTest x42 s29) fun x56 => if (x56 != 0) = true then some (.rt x56) else some (.nx x42.field)) l.tests.length 0 (-2) = some (.fin t) ∧
   rangeB (R := Int) (fun k65 (_ : Unit) => Option.bind (idx l.tests (k65 : Int)) fun x84 => if ((decide (x84.field < (-1))) || (decide ((20 : Int) ≤ x84.field))) = true then some (.rt 2) else Option.bind (if (decide ((0 : Int) < (k65 : Int))) = true then (Option.bind (idx l.tests (w64 ((k65 : Int) - 1))) fun x109 => some (decide (x84.field ≤ x109.field))) else (some false)) fun s103 => if s103 = true then some (.rt 5) else Option.bind (portref2_testFault x84) fun x119 => if (x119 != 0) = true then some (.rt x119) else some (.nx ())) l.tests.length 0 () = some (.fin ()) ∧ TestsOk l) := by
 rcases rangeB_sim (R := Int) (b := fun k23 s29 => Option.bind (idx l.tests (k23 : Int)) fun x42 => Option.bind (level_checkTest x42 s29) fun x56 => if (x56 != 0) = true then some (.rt x56) else some (.nx x42.field))
  (b' := fun k65 (_ : Unit) => Option.bind (idx l.tests (k65 : Int)) fun x84 => if ((decide (x84.field < (-1))) || (decide ((20 : Int) ≤ x84.field))) = true then some (.rt 2) else Option.bind (if (decide ((0 : Int) < (k65 : Int))) = true then (Option.bind (idx l.tests (w64 ((k65 : Int) - 1))) fun x109 => some (decide (x84.field ≤ x109.field))) else (some false)) fun s103 => if s103 = true then some (.rt 5) else Option.bind (portref2_testFault x84) fun x119 => if (x119 != 0) = true then some (.rt x119) else some (.nx ())) l.tests.length (fun r => r ≠ 0) (fun k s _ => (k = 0 → s = -2) ∧ (∀ x, 0 < k → l.tests[k - 1]? = some x → s = x.field) ∧ ∀ (j : Nat) (x : level_Test), j < k → l.tests[j]? = some x → -1 ≤ x.field ∧ x.field ≤ 19) (s := (-2 : Int)) (s' := ()) ⟨fun _ => rfl, fun _ h => absurd h (Nat.lt_irrefl _), fun _ _ h => absurd h (Nat.not_lt_zero _)⟩
  (by
   rintro k s _ hk ⟨i1, i2, i3⟩
   have hx : l.tests[k]? = some l.tests[k] := List.getElem?_eq_getElem hk
   generalize l.tests[k] = t at hx
   obtain ⟨r, e1, e2⟩ := test_eq t
   have hm : ((decide (t.field < (-1))) || (decide ((20 : Int) ≤ t.field))) = (!(level_within t.field (-1) 19)) := by
    rw [Bool.eq_iff_iff]; simp [level_within]; omega
   simp only [idx_nat, hx, Option.bind_some, e2, hm]
   by_cases h1 : (!(level_within t.field (-1) 19)) = true
   ·simp only [h1, if_true]
    exact .inl ⟨2, rfl, rfl, by decide⟩
   simp only [h1, Bool.false_eq_true, if_false]
   have hr : -1 ≤ t.field ∧ t.field ≤ 19 := by simp [level_within] at h1; omega
   rw [e1 hr.1]
   have hbo : (if (decide ((0 : Int) < (k : Int))) = true then (Option.bind (idx l.tests (w64 ((k : Int) - 1))) fun x109 => some (decide (t.field ≤ x109.field))) else (some false)) = some (decide (t.field ≤ s)) := by
    by_cases hk0 : 0 < k
    ·have hp : l.tests[k - 1]? = some l.tests[k - 1] := List.getElem?_eq_getElem (by omega)
     have hw : w64 ((k : Int) - 1) = ((k - 1 : Nat) : Int) := by rw [w64_id (by omega) (by omega)]; omega
     have hd : decide ((0 : Int) < (k : Int)) = true := decide_eq_true (by omega)
     rw [hd, if_pos rfl, hw, idx_nat, hp, i2 _ hk0 hp]
     rfl
    ·have hd : decide ((0 : Int) < (k : Int)) = false := decide_eq_false (by omega)
     rw [hd, i1 (by omega)]
     simp
     omega
   rw [hbo, Option.bind_some]
   by_cases h2 : t.field ≤ s
   ·simp only [if_pos h2, decide_eq_true h2, if_true]
    exact .inl ⟨5, rfl, rfl, by decide⟩
   simp only [if_neg h2, decide_eq_false h2, Bool.false_eq_true, if_false, Option.bind_some]
   by_cases h3 : r = 0
   ·subst h3
    refine .inr ⟨t.field, (), rfl, rfl, fun h => by omega, fun x _ hx2 => by rw [Nat.add_sub_cancel, hx] at hx2; cases hx2; rfl, fun j x hj hxj => ?_⟩
    rcases Nat.lt_or_eq_of_le (Nat.le_of_lt_succ hj) with h4 | rfl
    ·exact i3 j x h4 hxj
    ·rw [hx] at hxj
     cases hxj
     exact hr
   ·have : (r != 0) = true := by simpa using h3
    simp only [this, if_true]
    exact .inl ⟨r, rfl, rfl, h3⟩) with ⟨r, h1, h2, h3⟩ | ⟨t, u, h1, h2, _, _, h3⟩
 ·exact .inl ⟨r, h3, h1, h2⟩
 ·refine .inr ⟨t, h1, h2, fun x hx => ?_⟩
  obtain ⟨j, hj⟩ := List.getElem?_of_mem hx
  exact h3 j x (List.getElem?_eq_some_iff.1 hj).1 hj
theorem targets_eq (l : level_Level) (hl : l.targets.length ≤ 9223372036854775807) :
  (∃ r : Int, r ≠ 0 ∧ rangeB (fun k72 (_ : Unit) => Option.bind (idx l.targets (k72 : Int)) fun x91 => if (((!(level_within x91.kind 1 3)) || (!(level_within x91.minutes 0 100000))) || (!(level_within x91.calendar 0 19))) = true then some (.rt 2) else Option.bind (if (decide ((0 : Int) < (k72 : Int))) = true then (Option.bind (idx l.targets (w64 ((k72 : Int) - 1))) fun x119 => some (decide (x91.kind ≤ x119.kind))) else (some false)) fun s113 => if s113 = true then some (.rt 5) else some (.nx ())) l.targets.length 0 () = some (.rt r) ∧
   rangeB (fun k134 (_ : Unit) => Option.bind (idx l.targets (k134 : Int)) fun x153 => if ((((((decide (x153.kind < 1)) || (decide ((3 : Int) < x153.kind))) || (decide (x153.minutes < 0))) || (decide ((100000 : Int) < x153.minutes))) || (decide (x153.calendar < 0))) || (decide ((20 : Int) ≤ x153.calendar))) = true then some (.rt 2) else Option.bind (if (decide ((0 : Int) < (k134 : Int))) = true then (Option.bind (idx l.targets (w64 ((k134 : Int) - 1))) fun x190 => some (decide (x153.kind ≤ x190.kind))) else (some false)) fun s184 => if s184 = true then some (.rt 5) else some (.nx ())) l.targets.length 0 () = some (.rt r)) ∨
  (rangeB (R := Int) (fun k72 (_ : Unit) => Option.bind (idx l.targets (k72 : Int)) fun x91 => if (((!(level_within x91.kind 1 3)) || (!(level_within x91.minutes 0 100000))) || (!(level_within x91.calendar 0 19))) = true then some (.rt 2) else Option.bind (if (decide ((0 : Int) < (k72 : Int))) = true then (Option.bind (idx l.targets (w64 ((k72 : Int) - 1))) fun x119 => some (decide (x91.kind ≤ x119.kind))) else (some false)) fun s113 => if s113 = true then some (.rt 5) else some (.nx ())) l.targets.length 0 () = some (.fin ()) ∧
   rangeB (R := Int) (fun k134 (_ : Unit) => Option.bind (idx l.targets (k134 : Int)) fun x153 => if ((((((decide (x153.kind < 1)) || (decide ((3 : Int) < x153.kind))) || (decide (x153.minutes < 0))) || (decide ((100000 : Int) < x153.minutes))) || (decide (x153.calendar < 0))) || (decide ((20 : Int) ≤ x153.calendar))) = true then some (.rt 2) else Option.bind (if (decide ((0 : Int) < (k134 : Int))) = true then (Option.bind (idx l.targets (w64 ((k134 : Int) - 1))) fun x190 => some (decide (x153.kind ≤ x190.kind))) else (some false)) fun s184 => if s184 = true then some (.rt 5) else some (.nx ())) l.targets.length 0 () = some (.fin ())) := by
 rcases rangeB_sim (R := Int) (b := fun k72 (_ : Unit) => Option.bind (idx l.targets (k72 : Int)) fun x91 => if (((!(level_within x91.kind 1 3)) || (!(level_within x91.minutes 0 100000))) || (!(level_within x91.calendar 0 19))) = true then some (.rt 2) else Option.bind (if (decide ((0 : Int) < (k72 : Int))) = true then (Option.bind (idx l.targets (w64 ((k72 : Int) - 1))) fun x119 => some (decide (x91.kind ≤ x119.kind))) else (some false)) fun s113 => if s113 = true then some (.rt 5) else some (.nx ()))
  (b' := fun k134 (_ : Unit) => Option.bind (idx l.targets (k134 : Int)) fun x153 => if ((((((decide (x153.kind < 1)) || (decide ((3 : Int) < x153.kind))) || (decide (x153.minutes < 0))) || (decide ((100000 : Int) < x153.minutes))) || (decide (x153.calendar < 0))) || (decide ((20 : Int) ≤ x153.calendar))) = true then some (.rt 2) else Option.bind (if (decide ((0 : Int) < (k134 : Int))) = true then (Option.bind (idx l.targets (w64 ((k134 : Int) - 1))) fun x190 => some (decide (x153.kind ≤ x190.kind))) else (some false)) fun s184 => if s184 = true then some (.rt 5) else some (.nx ())) l.targets.length (fun r => r ≠ 0) (fun _ _ _ => True) (s := ()) (s' := ()) trivial
  (by
   rintro k _ _ hk _
   have hx : l.targets[k]? = some l.targets[k] := List.getElem?_eq_getElem hk
   generalize l.targets[k] = t at hx
   have hm : (((!(level_within t.kind 1 3)) || (!(level_within t.minutes 0 100000))) || (!(level_within t.calendar 0 19))) = ((((((decide (t.kind < 1)) || (decide ((3 : Int) < t.kind))) || (decide (t.minutes < 0))) || (decide ((100000 : Int) < t.minutes))) || (decide (t.calendar < 0))) || (decide ((20 : Int) ≤ t.calendar))) := by
    rw [Bool.eq_iff_iff]; simp [level_within]; omega
   obtain ⟨b, hb⟩ : ∃ b : Bool, (if (decide ((0 : Int) < (k : Int))) = true then (Option.bind (idx l.targets (w64 ((k : Int) - 1))) fun x119 => some (decide (t.kind ≤ x119.kind))) else (some false)) = some b := by
    by_cases h0 : (0 : Int) < (k : Int)
    ·have hw : w64 ((k : Int) - 1) = ((k - 1 : Nat) : Int) := by rw [w64_id (by omega) (by omega)]; omega
     rw [if_pos (by simpa using h0), hw, idx_lt _ _ (by omega)]
     exact ⟨_, rfl⟩
    ·rw [if_neg (by simpa using h0)]
     exact ⟨_, rfl⟩
   simp only [idx_nat, hx, Option.bind_some, hm, hb]
   by_cases h1 : ((((((decide (t.kind < 1)) || (decide ((3 : Int) < t.kind))) || (decide (t.minutes < 0))) || (decide ((100000 : Int) < t.minutes))) || (decide (t.calendar < 0))) || (decide ((20 : Int) ≤ t.calendar))) = true
   ·simp only [h1, if_true]
    exact .inl ⟨2, rfl, rfl, by decide⟩
   simp only [h1, Bool.false_eq_true, if_false]
   cases b with
   | true => exact .inl ⟨5, rfl, rfl, by decide⟩
   | false => exact .inr ⟨(), (), rfl, rfl, trivial⟩) with ⟨r, h1, h2, h3⟩ | ⟨_, _, h1, h2, _⟩
 ·exact .inl ⟨r, h3, h1, h2⟩
 ·exact .inr ⟨h1, h2⟩
end Go.Proofs.YtfbiebageicnaaaGreatDoor.M
