import Derived.Test.YtfbiebageicnaaaGreatDoorLevelClocksLvlCheck
namespace Go.Proofs.YtfbiebageicnaaaGreatDoor.M
open Go Go.Pu
set_option linter.unusedSimpArgs false
set_option linter.unusedVariables false
theorem rangeB_each {b : Nat → Unit → Option (Ctl Unit Int)} (hrt : ∀ k r, b k () = some (.rt r) → r ≠ 0) (hbk : ∀ k s, b k () ≠ some (.bk s)) {K : Unit → Option Int} : ∀ (n k : Nat), (Option.bind (rangeB b n k ()) fun o => o.andThen (fun y => some y) K) = some 0 → (∀ j, k ≤ j → j < k + n → b j () = some (.nx ())) ∧ K () = some 0
 | 0, k, h => ⟨fun j h1 h2 => by omega, h⟩
 | n + 1, k, h => by
  rw [rangeB] at h
  rcases hb : b k () with _ | (s | s | r)
  ·rw [hb] at h; cases h
  ·rw [hb] at h
   simp only at h
   obtain ⟨i1, i2⟩ := rangeB_each hrt hbk n (k + 1) h
   refine ⟨fun j h1 h2 => ?_, i2⟩
   by_cases hj : j = k
   ·subst hj; exact hb
   ·exact i1 j (by omega) (by omega)
  ·exact absurd hb (hbk k s)
  ·rw [hb] at h
   have hr := hrt k r hb
   simp [Lp.andThen] at h
   exact absurd h hr
theorem rise_few {l : List Int} {lo hi : Int} (h : ∀ k (hk : k < l.length), lo ≤ l[k] ∧ l[k] ≤ hi) (hr : ∀ k (hk : k + 1 < l.length), l[k] < l[k + 1]) (hlh : lo ≤ hi + 1) : (l.length : Int) ≤ hi - lo + 1 := by
 have key : ∀ k (hk : k < l.length), lo + k ≤ l[k] := by
  intro k
  induction k with
  | zero => intro hk; have := (h 0 hk).1; simpa using this
  | succ k ih =>
   intro hk
   have h1 := ih (by omega)
   have h2 := hr k hk
   omega
 by_cases h0 : l.length = 0
 ·omega
 ·have h1 := key (l.length - 1) (by omega)
  have h2 := (h (l.length - 1) (by omega)).2
  omega
structure LOk (l : level_Level) : Prop where
 name : l.name.size ≤ 20
 tests : l.tests.length ≤ 8
 test : ∀ t ∈ l.tests, (-1 ≤ t.field ∧ t.field < 20) ∧ portref2_testFault t = some 0
 targets : l.targets.length ≤ 3
 target : ∀ t ∈ l.targets, (1 ≤ t.kind ∧ t.kind ≤ 3) ∧ (0 ≤ t.minutes ∧ t.minutes ≤ 100000) ∧ (0 ≤ t.calendar ∧ t.calendar < 20)
theorem levelFault_ok {ls : List level_Level} {i : Nat} {l : level_Level} (hl : ls[i]? = some l) (h : portref2_levelFault ls (i : Int) = some 0) (hi : i ≤ 100) (hm : l.targets.length ≤ 9223372036854775807) : LOk l := by
 unfold portref2_levelFault at h
 rw [idx_nat, hl, Option.bind_some, isName_val, Option.bind_some] at h
 have hil : i ≤ ls.length := by have := (List.getElem?_eq_some_iff.1 hl).1; omega
 by_cases c1 : (!(l.name.data.toList.all okB && ((!(strEq l.name (⟨#[]⟩ : ByteArray))) && (decide ((l.name.size : Int) ≤ 20))))) = true
 ·rw [if_pos c1] at h; cases h
 rw [if_neg c1, sliceL_take _ _ hil, Option.bind_some] at h
 have hc := containsL_val (ls.take i) (fun y => strEq y.name l.name)
 have hf : (fun y35 => portref2_levelFault_1 y35 l) = fun y => some (strEq y.name l.name) := rfl
 rw [hf, hc, Option.bind_some] at h
 split at h
 ·cases h
 split at h
 ·cases h
 rename_i _ c8
 obtain ⟨ht, h⟩ := rangeB_each (b := fun k65 _ => Option.bind (idx l.tests (k65 : Int)) fun x84 => if ((decide (x84.field < (-1))) || (decide ((20 : Int) ≤ x84.field))) = true then some (.rt 2) else Option.bind (if (decide ((0 : Int) < (k65 : Int))) = true then (Option.bind (idx l.tests (w64 ((k65 : Int) - 1))) fun x109 => some (decide (x84.field ≤ x109.field))) else (some false)) fun s103 => if s103 = true then some (.rt 5) else Option.bind (portref2_testFault x84) fun x119 => if (x119 != 0) = true then some (.rt x119) else some (.nx ())) (by
  intro k r hb
  cases hx : idx l.tests (k : Int) with
  | none => rw [hx] at hb; cases hb
  | some x =>
   rw [hx, Option.bind_some] at hb
   split at hb
   ·cases hb; decide
   ·obtain ⟨s, hs, hb⟩ := Option.bind_eq_some_iff.1 hb
    split at hb
    ·cases hb; decide
    ·obtain ⟨e, he, hb⟩ := Option.bind_eq_some_iff.1 hb
     split at hb
     ·rename_i hne; cases hb; simpa using hne
     ·cases hb) (by
  intro k s hb
  cases hx : idx l.tests (k : Int) with
  | none => rw [hx] at hb; cases hb
  | some x =>
   rw [hx, Option.bind_some] at hb
   split at hb
   ·cases hb
   ·obtain ⟨s, hs, hb⟩ := Option.bind_eq_some_iff.1 hb
    split at hb
    ·cases hb
    ·obtain ⟨e, he, hb⟩ := Option.bind_eq_some_iff.1 hb
     split at hb <;> cases hb) _ _ h
 obtain ⟨hg, _⟩ := rangeB_each (b := fun k134 _ => Option.bind (idx l.targets (k134 : Int)) fun x153 => if ((((((decide (x153.kind < 1)) || (decide ((3 : Int) < x153.kind))) || (decide (x153.minutes < 0))) || (decide ((100000 : Int) < x153.minutes))) || (decide (x153.calendar < 0))) || (decide ((20 : Int) ≤ x153.calendar))) = true then some (.rt 2) else Option.bind (if (decide ((0 : Int) < (k134 : Int))) = true then (Option.bind (idx l.targets (w64 ((k134 : Int) - 1))) fun x190 => some (decide (x153.kind ≤ x190.kind))) else (some false)) fun s184 => if s184 = true then some (.rt 5) else some (.nx ())) (by
  intro k r hb
  cases hx : idx l.targets (k : Int) with
  | none => rw [hx] at hb; cases hb
  | some x =>
   rw [hx, Option.bind_some] at hb
   split at hb
   ·cases hb; decide
   ·obtain ⟨s, hs, hb⟩ := Option.bind_eq_some_iff.1 hb
    split at hb
    ·cases hb; decide
    ·cases hb) (by
  intro k s hb
  cases hx : idx l.targets (k : Int) with
  | none => rw [hx] at hb; cases hb
  | some x =>
   rw [hx, Option.bind_some] at hb
   split at hb
   ·cases hb
   ·obtain ⟨s, hs, hb⟩ := Option.bind_eq_some_iff.1 hb
    split at hb <;> cases hb) _ _ h
 have htar : ∀ k (hk : k < l.targets.length), ((1 ≤ l.targets[k].kind ∧ l.targets[k].kind ≤ 3) ∧ (0 ≤ l.targets[k].minutes ∧ l.targets[k].minutes ≤ 100000) ∧ (0 ≤ l.targets[k].calendar ∧ l.targets[k].calendar < 20)) ∧ ∀ j, j + 1 = k → ∀ (hj : j < l.targets.length), l.targets[j].kind < l.targets[k].kind := by
  intro k hk
  have hb := hg k (by omega) (by omega)
  simp only [idx_lt _ _ hk, Option.bind_some] at hb
  split at hb
  ·cases hb
  rename_i c
  simp at c
  refine ⟨by omega, fun j hj hjl => ?_⟩
  obtain ⟨s, hs, hb⟩ := Option.bind_eq_some_iff.1 hb
  have hw : w64 ((k : Int) - 1) = (j : Int) := by rw [w64_id (by omega) (by omega)]; omega
  rw [if_pos (by simp; omega), hw, idx_lt _ _ hjl, Option.bind_some] at hs
  cases hs
  split at hb
  ·cases hb
  ·rename_i c; simpa using c
 refine ⟨by simp at c1; have := c1.2.2; omega, by simp at c8; omega, fun t ht' => ?_, ?_, fun t ht' => ?_⟩
 ·obtain ⟨k, hk, rfl⟩ := List.getElem_of_mem ht'
  have hb := ht k (by omega) (by omega)
  simp only [idx_lt _ _ hk, Option.bind_some] at hb
  split at hb
  ·cases hb
  rename_i c
  simp at c
  refine ⟨by omega, ?_⟩
  obtain ⟨s, hs, hb⟩ := Option.bind_eq_some_iff.1 hb
  split at hb
  ·cases hb
  obtain ⟨e, he, hb⟩ := Option.bind_eq_some_iff.1 hb
  split at hb
  ·cases hb
  ·rename_i c; simp at c; rw [he, c]
 ·have := rise_few (l := l.targets.map (·.kind)) (lo := 1) (hi := 3) (fun k hk => by
   rw [List.length_map] at hk
   rw [List.getElem_map]
   exact (htar k hk).1.1) (fun k hk => by
   rw [List.length_map] at hk
   rw [List.getElem_map, List.getElem_map]
   exact (htar (k + 1) hk).2 k rfl (by omega)) (by decide)
  rw [List.length_map] at this
  omega
 ·obtain ⟨k, hk, rfl⟩ := List.getElem_of_mem ht'
  exact (htar k hk).1
theorem policyFault_ok {p : level_Policy} (h : portref2_PolicyFault p = some 0) (hn : ∀ l ∈ p.levels, l.targets.length ≤ 9223372036854775807) (hp : p.pauses.length ≤ 9223372036854775807) : (p.pauses.length ≤ 4 ∧ ∀ x ∈ p.pauses, 1 ≤ x ∧ x ≤ 4) ∧ p.levels.length ≤ 20 ∧ ∀ l ∈ p.levels, LOk l := by
 unfold portref2_PolicyFault at h
 obtain ⟨hg, h⟩ := rangeB_each (b := fun k19 _ => Option.bind (idx p.pauses (k19 : Int)) fun x34 => if ((decide (x34 < 1)) || (decide ((4 : Int) < x34))) = true then some (.rt 2) else Option.bind (if (decide ((0 : Int) < (k19 : Int))) = true then (Option.bind (idx p.pauses (w64 ((k19 : Int) - 1))) fun x47 => some (decide (x34 ≤ x47))) else (some false)) fun s42 => if s42 = true then some (.rt 5) else some (.nx ())) (by
  intro k r hb
  cases hx : idx p.pauses (k : Int) with
  | none => rw [hx] at hb; cases hb
  | some x =>
   rw [hx, Option.bind_some] at hb
   split at hb
   ·cases hb; decide
   ·obtain ⟨s, hs, hb⟩ := Option.bind_eq_some_iff.1 hb
    split at hb
    ·cases hb; decide
    ·cases hb) (by
  intro k s hb
  cases hx : idx p.pauses (k : Int) with
  | none => rw [hx] at hb; cases hb
  | some x =>
   rw [hx, Option.bind_some] at hb
   split at hb
   ·cases hb
   ·obtain ⟨s, hs, hb⟩ := Option.bind_eq_some_iff.1 hb
    split at hb <;> cases hb) _ _ h
 have hpa : ∀ k (hk : k < p.pauses.length), (1 ≤ p.pauses[k] ∧ p.pauses[k] ≤ 4) ∧ ∀ j, j + 1 = k → ∀ (hj : j < p.pauses.length), p.pauses[j] < p.pauses[k] := by
  intro k hk
  have hb := hg k (by omega) (by omega)
  simp only [idx_lt _ _ hk, Option.bind_some] at hb
  split at hb
  ·cases hb
  rename_i c
  simp at c
  refine ⟨by omega, fun j hj hjl => ?_⟩
  obtain ⟨s, hs, hb⟩ := Option.bind_eq_some_iff.1 hb
  have hw : w64 ((k : Int) - 1) = (j : Int) := by rw [w64_id (by omega) (by omega)]; omega
  rw [if_pos (by simp; omega), hw, idx_lt _ _ hjl, Option.bind_some] at hs
  cases hs
  split at hb
  ·cases hb
  ·rename_i c; simpa using c
 have h4 := rise_few (l := p.pauses) (lo := 1) (hi := 4) (fun k hk => (hpa k hk).1) (fun k hk => (hpa (k + 1) hk).2 k rfl (by omega)) (by decide)
 refine ⟨⟨by omega, fun x hx => ?_⟩, ?_⟩
 ·obtain ⟨k, hk, rfl⟩ := List.getElem_of_mem hx
  exact (hpa k hk).1
 split at h
 ·cases h
 rename_i c20
 simp at c20
 obtain ⟨hl, _⟩ := rangeB_each (b := fun k69 _ => Option.bind (portref2_levelFault p.levels (k69 : Int)) fun x92 => if (x92 != 0) = true then some (.rt x92) else some (.nx ())) (by
  intro k r hb
  obtain ⟨e, he, hb⟩ := Option.bind_eq_some_iff.1 hb
  split at hb
  ·rename_i hne; cases hb; simpa using hne
  ·cases hb) (by
  intro k s hb
  obtain ⟨e, he, hb⟩ := Option.bind_eq_some_iff.1 hb
  split at hb <;> cases hb) _ _ h
 refine ⟨by omega, fun l hlm => ?_⟩
 obtain ⟨k, hk, rfl⟩ := List.getElem_of_mem hlm
 have hb := hl k (by omega) (by omega)
 obtain ⟨e, he, hb⟩ := Option.bind_eq_some_iff.1 hb
 split at hb
 ·cases hb
 ·rename_i c
  simp at c
  exact levelFault_ok (List.getElem?_eq_getElem hk) (by rw [he, c]) (by omega) (hn _ hlm)
end Go.Proofs.YtfbiebageicnaaaGreatDoor.M
