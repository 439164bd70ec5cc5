/-
  CheckIndex and its reference: the loops: plain part.
-/
import Derived.Test.YtkjlbaacbkdnfaaGreatDoorKnowSearchesKnwIndex
namespace Go.Proofs.YtkjlbaacbkdnfaaGreatDoor.M
open Go Go.Pu
set_option linter.unusedSimpArgs false
set_option linter.unusedVariables false

theorem ids_eq (x : know_Index) (hlen : x.ids.length ≤ 200) (hsz : x.sizes.length = x.ids.length) :
    (∃ r, rangeB (R := Int) (fun k35 (_ : Unit) => Option.bind (idx x.ids (k35 : Int)) fun x50 => if (!(know_within x50 1 3000000)) = true then some (.rt 2) else Option.bind (if (decide ((0 : Int) < (k35 : Int))) = true then (Option.bind (idx x.ids (w64 ((k35 : Int) - 1))) fun x61 => some (decide (x50 ≤ x61))) else (some false)) fun s56 => if s56 = true then some (.rt 5) else Option.bind (idx x.sizes (k35 : Int)) fun x70 => if (!(know_within x70 0 20000)) = true then some (.rt 2) else some (.nx ())) x.ids.length 0 () = some (.rt r) ∧ rangeB (R := Int) (fun k35 (_ : Unit) => Option.bind (idx x.ids (k35 : Int)) fun x50 => if ((decide (x50 < 1)) || (decide ((3000000 : Int) < x50))) = true then some (.rt 2) else Option.bind (if (decide ((0 : Int) < (k35 : Int))) = true then (Option.bind (idx x.ids (w64 ((k35 : Int) - 1))) fun x63 => some (decide (x50 ≤ x63))) else (some false)) fun s58 => if s58 = true then some (.rt 5) else Option.bind (idx x.sizes (k35 : Int)) fun x72 => Option.bind (if (decide (x72 < 0)) = true then (some true) else (some (decide ((20000 : Int) < x72)))) fun s77 => if s77 = true then some (.rt 2) else some (.nx ())) x.ids.length 0 () = some (.rt r) ∧ r ≠ 0) ∨
    (rangeB (R := Int) (fun k35 (_ : Unit) => Option.bind (idx x.ids (k35 : Int)) fun x50 => if (!(know_within x50 1 3000000)) = true then some (.rt 2) else Option.bind (if (decide ((0 : Int) < (k35 : Int))) = true then (Option.bind (idx x.ids (w64 ((k35 : Int) - 1))) fun x61 => some (decide (x50 ≤ x61))) else (some false)) fun s56 => if s56 = true then some (.rt 5) else Option.bind (idx x.sizes (k35 : Int)) fun x70 => if (!(know_within x70 0 20000)) = true then some (.rt 2) else some (.nx ())) x.ids.length 0 () = some (.fin ()) ∧ rangeB (R := Int) (fun k35 (_ : Unit) => Option.bind (idx x.ids (k35 : Int)) fun x50 => if ((decide (x50 < 1)) || (decide ((3000000 : Int) < x50))) = true then some (.rt 2) else Option.bind (if (decide ((0 : Int) < (k35 : Int))) = true then (Option.bind (idx x.ids (w64 ((k35 : Int) - 1))) fun x63 => some (decide (x50 ≤ x63))) else (some false)) fun s58 => if s58 = true then some (.rt 5) else Option.bind (idx x.sizes (k35 : Int)) fun x72 => Option.bind (if (decide (x72 < 0)) = true then (some true) else (some (decide ((20000 : Int) < x72)))) fun s77 => if s77 = true then some (.rt 2) else some (.nx ())) x.ids.length 0 () = some (.fin ()) ∧ IdsOk x) := by
  rcases rangeB_sim (R := Int) (b := fun k35 (_ : Unit) => Option.bind (idx x.ids (k35 : Int)) fun x50 => if (!(know_within x50 1 3000000)) = true then some (.rt 2) else Option.bind (if (decide ((0 : Int) < (k35 : Int))) = true then (Option.bind (idx x.ids (w64 ((k35 : Int) - 1))) fun x61 => some (decide (x50 ≤ x61))) else (some false)) fun s56 => if s56 = true then some (.rt 5) else Option.bind (idx x.sizes (k35 : Int)) fun x70 => if (!(know_within x70 0 20000)) = true then some (.rt 2) else some (.nx ())) (b' := fun k35 (_ : Unit) => Option.bind (idx x.ids (k35 : Int)) fun x50 => if ((decide (x50 < 1)) || (decide ((3000000 : Int) < x50))) = true then some (.rt 2) else Option.bind (if (decide ((0 : Int) < (k35 : Int))) = true then (Option.bind (idx x.ids (w64 ((k35 : Int) - 1))) fun x63 => some (decide (x50 ≤ x63))) else (some false)) fun s58 => if s58 = true then some (.rt 5) else Option.bind (idx x.sizes (k35 : Int)) fun x72 => Option.bind (if (decide (x72 < 0)) = true then (some true) else (some (decide ((20000 : Int) < x72)))) fun s77 => if s77 = true then some (.rt 2) else some (.nx ())) x.ids.length (fun r => r ≠ 0) (fun k _ _ => (∀ (j : Nat) (a : Int), j < k → x.ids[j]? = some a → 1 ≤ a ∧ a ≤ 3000000) ∧ (∀ (j : Nat) (a : Int), j < k → x.sizes[j]? = some a → 0 ≤ a ∧ a ≤ 20000) ∧ ∀ (i j : Nat) (a b : Int), i < j → j < k → x.ids[i]? = some a → x.ids[j]? = some b → a < b) (s := ()) (s' := ()) ⟨fun j a h => by omega, fun j a h => by omega, fun i j a b h h' => by omega⟩ (by
    rintro k _ _ hk ⟨i1, i2, i3⟩
    simp only [idx_lt _ _ hk, idx_lt x.sizes k (by omega), Option.bind_some]
    have hvk : x.ids[k]? = some x.ids[k] := List.getElem?_eq_getElem hk
    have hzk : x.sizes[k]? = some (x.sizes[k]'(by omega)) := List.getElem?_eq_getElem (by omega)
    generalize x.ids[k] = v at hvk
    generalize x.sizes[k]'(by omega) = z at hzk
    have e1 : (!(know_within v 1 3000000)) = ((decide (v < 1)) || (decide ((3000000 : Int) < v))) := by
      rw [Bool.eq_iff_iff]; simp [know_within] <;> omega
    rw [e1]
    by_cases hv : ((decide (v < 1)) || (decide ((3000000 : Int) < v))) = true
    · rw [if_pos hv, if_pos hv]
      exact Or.inl ⟨_, rfl, rfl, by decide⟩
    rw [if_neg hv, if_neg hv]
    have hord : ∃ b, (if (decide ((0 : Int) < (k : Int))) = true then (Option.bind (idx x.ids (w64 ((k : Int) - 1))) fun x61 => some (decide (v ≤ x61))) else (some false)) = some b ∧ (b = false → ∀ a, 0 < k → x.ids[k - 1]? = some a → a < v) := by
      by_cases h0 : 0 < k
      · have e : w64 ((k : Int) - 1) = ((k - 1 : Nat) : Int) := by rw [w64_id (by omega) (by omega)]; omega
        have hk1 : x.ids[k - 1]? = some (x.ids[k - 1]'(by omega)) := List.getElem?_eq_getElem (by omega)
        rw [if_pos (by simpa using h0), e, idx_nat, hk1, Option.bind_some]
        refine ⟨_, rfl, fun hb a _ ha => ?_⟩
        cases ha
        rw [decide_eq_false_iff_not] at hb
        omega
      · rw [if_neg (by simpa using h0)]
        exact ⟨_, rfl, fun _ a h => absurd h h0⟩
    obtain ⟨b, hb, hbo⟩ := hord
    rw [hb, Option.bind_some, Option.bind_some]
    cases b with
    | true => exact Or.inl ⟨_, rfl, rfl, by decide⟩
    | false =>
      simp only [Bool.false_eq_true, if_false, Option.bind_some]
      have e2 : (if (decide (z < 0)) = true then (some true) else (some (decide ((20000 : Int) < z)))) = some (!(know_within z 0 20000)) := by
        by_cases h0 : z < 0
        · rw [if_pos (by simpa using h0)]
          have : know_within z 0 20000 = false := by simp [know_within]; omega
          rw [this]; rfl
        · rw [if_neg (by simpa using h0)]
          congr 1
          rw [Bool.eq_iff_iff]; simp [know_within]; omega
      rw [e2, Option.bind_some]
      cases hz : (!(know_within z 0 20000)) with
      | true => exact Or.inl ⟨_, rfl, rfl, by decide⟩
      | false =>
      refine Or.inr ⟨_, _, rfl, rfl, fun j a hj ha => ?_, fun j a hj ha => ?_, fun i j a c hij hj ha hc => ?_⟩
      · rcases Nat.lt_or_eq_of_le (Nat.le_of_lt_succ hj) with h | rfl
        · exact i1 j a h ha
        · rw [hvk] at ha; cases ha
          simp at hv
          omega
      · rcases Nat.lt_or_eq_of_le (Nat.le_of_lt_succ hj) with h | rfl
        · exact i2 j a h ha
        · rw [hzk] at ha; cases ha
          simp [know_within] at hz
          omega
      · rcases Nat.lt_or_eq_of_le (Nat.le_of_lt_succ hj) with h | rfl
        · exact i3 i j a c hij h ha hc
        · rw [hvk] at hc; cases hc
          have hk1 : x.ids[j - 1]? = some (x.ids[j - 1]'(by omega)) := List.getElem?_eq_getElem (by omega)
          have h1 := hbo rfl _ (by omega) hk1
          rcases Nat.lt_or_eq_of_le (Nat.le_sub_one_of_lt hij) with h | rfl
          · have := i3 i (j - 1) a _ h (by omega) ha hk1
            omega
          · rw [hk1] at ha; cases ha; exact h1) with ⟨r, a1, a2, h⟩ | ⟨_, _, a1, a2, i1, i2, i3⟩
  · exact Or.inl ⟨r, a1, a2, h⟩
  · refine Or.inr ⟨a1, a2, hlen, hsz, fun i j a b hij ha hb => i3 i j a b hij (List.getElem?_eq_some_iff.1 hb).1 ha hb, fun v hv => ?_, fun v hv => ?_⟩
    · obtain ⟨j, hj⟩ := List.mem_iff_getElem?.1 hv
      exact i1 j v (List.getElem?_eq_some_iff.1 hj).1 hj
    · obtain ⟨j, hj⟩ := List.mem_iff_getElem?.1 hv
      exact i2 j v (by have := (List.getElem?_eq_some_iff.1 hj).1; omega) hj

theorem terms_eq {x : know_Index} (hx : IdsOk x) (hs : Small x) :
    (∃ r, rangeB (R := Int) (fun k85 (_ : Unit) => Option.bind (idx x.terms (k85 : Int)) fun x104 => Option.bind (know_Words x104.word) fun x123 => Option.bind (if ((x123.length : Int) != 1) = true then (some true) else (Option.bind (idx x123 0) fun x133 => some (!(strEq x133 x104.word)))) fun s132 => if (s132 || ((x104.list_.length : Int) == 0)) = true then some (.rt 1) else Option.bind (if (decide ((0 : Int) < (k85 : Int))) = true then (Option.bind (idx x.terms (w64 ((k85 : Int) - 1))) fun x156 => some (strLt x104.word x156.word || strEq x104.word x156.word)) else (some false)) fun s150 => if s150 = true then some (.rt 5) else Option.bind (know_Index_checkTerm x x104) fun x175 => if (x175 != 0) = true then some (.rt x175) else some (.nx ())) x.terms.length 0 () = some (.rt r) ∧ rangeB (R := Int) (fun k96 (_ : Unit) => Option.bind (α := Lp _ _) (Option.bind (idx x.terms (k96 : Int)) fun x123 => Option.bind (portref2_WordsOf x123.word) fun x142 => Option.bind (if ((x142.length : Int) != 1) = true then (some true) else (Option.bind (idx x142 0) fun x152 => some (!(strEq x152 x123.word)))) fun s151 => if (s151 || ((x123.list_.length : Int) == 0)) = true then some (.rt 1) else Option.bind (if (decide ((0 : Int) < (k96 : Int))) = true then (Option.bind (idx x.terms (w64 ((k96 : Int) - 1))) fun x175 => some (strLt x123.word x175.word || strEq x123.word x175.word)) else (some false)) fun s169 => if s169 = true then some (.rt 5) else Option.bind (rangeB (fun k191 _ => Option.bind (α := Lp _ _) (Option.bind (idx x123.list_ (k191 : Int)) fun x218 => Option.bind (slices_Index_Lint_int x.ids x218.id_) fun x246 => if (decide (x246 < 0)) = true then some (.rt 7) else Option.bind (if (decide ((0 : Int) < (k191 : Int))) = true then (Option.bind (idx x123.list_ (w64 ((k191 : Int) - 1))) fun x255 => some (decide (x218.id_ ≤ x255.id_))) else (some false)) fun s249 => if s249 = true then some (.rt 5) else if ((w64 ((x218.title.length : Int) + (x218.body.length : Int))) == 0) = true then some (.rt 1) else Option.bind (rangeB (fun k295 _ => Option.bind (idx ([x218.title, x218.body] : List (List Int)) (k295 : Int)) fun x310 => Option.bind (idx x.sizes x246) fun x321 => Option.bind (portref2_positionsFault x310 x321) fun x325 => if (x325 != 0) = true then some (.rt x325) else some (.nx ())) (([x218.title, x218.body] : List (List Int)).length) 0 ()) fun o292 => o292.andThen (fun y => some (.rt y)) fun s293 => some (.fin ())) fun o210 => o210.andThen (fun y => some (.rt y)) fun s211 => some (.nx ())) x123.list_.length 0 ()) fun o188 => o188.andThen (fun y => some (.rt y)) fun s189 => some (.fin ())) fun o115 => o115.andThen (fun y => some (.rt y)) fun s116 => some (.nx ())) x.terms.length 0 () = some (.rt r) ∧ r ≠ 0) ∨
    (rangeB (R := Int) (fun k85 (_ : Unit) => Option.bind (idx x.terms (k85 : Int)) fun x104 => Option.bind (know_Words x104.word) fun x123 => Option.bind (if ((x123.length : Int) != 1) = true then (some true) else (Option.bind (idx x123 0) fun x133 => some (!(strEq x133 x104.word)))) fun s132 => if (s132 || ((x104.list_.length : Int) == 0)) = true then some (.rt 1) else Option.bind (if (decide ((0 : Int) < (k85 : Int))) = true then (Option.bind (idx x.terms (w64 ((k85 : Int) - 1))) fun x156 => some (strLt x104.word x156.word || strEq x104.word x156.word)) else (some false)) fun s150 => if s150 = true then some (.rt 5) else Option.bind (know_Index_checkTerm x x104) fun x175 => if (x175 != 0) = true then some (.rt x175) else some (.nx ())) x.terms.length 0 () = some (.fin ()) ∧ rangeB (R := Int) (fun k96 (_ : Unit) => Option.bind (α := Lp _ _) (Option.bind (idx x.terms (k96 : Int)) fun x123 => Option.bind (portref2_WordsOf x123.word) fun x142 => Option.bind (if ((x142.length : Int) != 1) = true then (some true) else (Option.bind (idx x142 0) fun x152 => some (!(strEq x152 x123.word)))) fun s151 => if (s151 || ((x123.list_.length : Int) == 0)) = true then some (.rt 1) else Option.bind (if (decide ((0 : Int) < (k96 : Int))) = true then (Option.bind (idx x.terms (w64 ((k96 : Int) - 1))) fun x175 => some (strLt x123.word x175.word || strEq x123.word x175.word)) else (some false)) fun s169 => if s169 = true then some (.rt 5) else Option.bind (rangeB (fun k191 _ => Option.bind (α := Lp _ _) (Option.bind (idx x123.list_ (k191 : Int)) fun x218 => Option.bind (slices_Index_Lint_int x.ids x218.id_) fun x246 => if (decide (x246 < 0)) = true then some (.rt 7) else Option.bind (if (decide ((0 : Int) < (k191 : Int))) = true then (Option.bind (idx x123.list_ (w64 ((k191 : Int) - 1))) fun x255 => some (decide (x218.id_ ≤ x255.id_))) else (some false)) fun s249 => if s249 = true then some (.rt 5) else if ((w64 ((x218.title.length : Int) + (x218.body.length : Int))) == 0) = true then some (.rt 1) else Option.bind (rangeB (fun k295 _ => Option.bind (idx ([x218.title, x218.body] : List (List Int)) (k295 : Int)) fun x310 => Option.bind (idx x.sizes x246) fun x321 => Option.bind (portref2_positionsFault x310 x321) fun x325 => if (x325 != 0) = true then some (.rt x325) else some (.nx ())) (([x218.title, x218.body] : List (List Int)).length) 0 ()) fun o292 => o292.andThen (fun y => some (.rt y)) fun s293 => some (.fin ())) fun o210 => o210.andThen (fun y => some (.rt y)) fun s211 => some (.nx ())) x123.list_.length 0 ()) fun o188 => o188.andThen (fun y => some (.rt y)) fun s189 => some (.fin ())) fun o115 => o115.andThen (fun y => some (.rt y)) fun s116 => some (.nx ())) x.terms.length 0 () = some (.fin ()) ∧ IndexOk x) := by
  rcases rangeB_sim (R := Int) (b := fun k85 (_ : Unit) => Option.bind (idx x.terms (k85 : Int)) fun x104 => Option.bind (know_Words x104.word) fun x123 => Option.bind (if ((x123.length : Int) != 1) = true then (some true) else (Option.bind (idx x123 0) fun x133 => some (!(strEq x133 x104.word)))) fun s132 => if (s132 || ((x104.list_.length : Int) == 0)) = true then some (.rt 1) else Option.bind (if (decide ((0 : Int) < (k85 : Int))) = true then (Option.bind (idx x.terms (w64 ((k85 : Int) - 1))) fun x156 => some (strLt x104.word x156.word || strEq x104.word x156.word)) else (some false)) fun s150 => if s150 = true then some (.rt 5) else Option.bind (know_Index_checkTerm x x104) fun x175 => if (x175 != 0) = true then some (.rt x175) else some (.nx ())) (b' := fun k96 (_ : Unit) => Option.bind (α := Lp _ _) (Option.bind (idx x.terms (k96 : Int)) fun x123 => Option.bind (portref2_WordsOf x123.word) fun x142 => Option.bind (if ((x142.length : Int) != 1) = true then (some true) else (Option.bind (idx x142 0) fun x152 => some (!(strEq x152 x123.word)))) fun s151 => if (s151 || ((x123.list_.length : Int) == 0)) = true then some (.rt 1) else Option.bind (if (decide ((0 : Int) < (k96 : Int))) = true then (Option.bind (idx x.terms (w64 ((k96 : Int) - 1))) fun x175 => some (strLt x123.word x175.word || strEq x123.word x175.word)) else (some false)) fun s169 => if s169 = true then some (.rt 5) else Option.bind (rangeB (fun k191 _ => Option.bind (α := Lp _ _) (Option.bind (idx x123.list_ (k191 : Int)) fun x218 => Option.bind (slices_Index_Lint_int x.ids x218.id_) fun x246 => if (decide (x246 < 0)) = true then some (.rt 7) else Option.bind (if (decide ((0 : Int) < (k191 : Int))) = true then (Option.bind (idx x123.list_ (w64 ((k191 : Int) - 1))) fun x255 => some (decide (x218.id_ ≤ x255.id_))) else (some false)) fun s249 => if s249 = true then some (.rt 5) else if ((w64 ((x218.title.length : Int) + (x218.body.length : Int))) == 0) = true then some (.rt 1) else Option.bind (rangeB (fun k295 _ => Option.bind (idx ([x218.title, x218.body] : List (List Int)) (k295 : Int)) fun x310 => Option.bind (idx x.sizes x246) fun x321 => Option.bind (portref2_positionsFault x310 x321) fun x325 => if (x325 != 0) = true then some (.rt x325) else some (.nx ())) (([x218.title, x218.body] : List (List Int)).length) 0 ()) fun o292 => o292.andThen (fun y => some (.rt y)) fun s293 => some (.fin ())) fun o210 => o210.andThen (fun y => some (.rt y)) fun s211 => some (.nx ())) x123.list_.length 0 ()) fun o188 => o188.andThen (fun y => some (.rt y)) fun s189 => some (.fin ())) fun o115 => o115.andThen (fun y => some (.rt y)) fun s116 => some (.nx ())) x.terms.length (fun r => r ≠ 0) (fun k _ _ => (∀ (j : Nat) (t : know_Term), j < k → x.terms[j]? = some t → TermOk x t) ∧ ∀ (i j : Nat) (t u : know_Term), i < j → j < k → x.terms[i]? = some t → x.terms[j]? = some u → cmpS t.word u.word < 0) (s := ()) (s' := ()) ⟨fun j a h => by omega, fun i j a b h h' => by omega⟩ (by
    rintro k _ _ hk ⟨i1, i3⟩
    have hm := hs.terms
    rw [idx_lt _ _ hk, Option.bind_some, Option.bind_some]
    have htk : x.terms[k]? = some x.terms[k] := List.getElem?_eq_getElem hk
    have htm := List.getElem_mem hk
    generalize x.terms[k] = t at htk htm
    have hw := hs.word t htm
    rw [know_Words_val _ (by omega), portref2_WordsOf_val _ (by omega), Option.bind_some, Option.bind_some]
    obtain ⟨b, hb⟩ : ∃ b, (if (((wordsL t.word.data.toList).length : Int) != 1) = true then (some true) else (Option.bind (idx (wordsL t.word.data.toList) 0) fun x133 => some (!(strEq x133 t.word)))) = some b := by
      by_cases h1 : (wordsL t.word.data.toList).length = 1
      · rw [if_neg (by simp [h1])]
        have := idx_lt (wordsL t.word.data.toList) 0 (by omega)
        rw [show ((0 : Nat) : Int) = 0 from rfl] at this
        rw [this]
        exact ⟨_, rfl⟩
      · rw [if_pos (by rw [bne_iff_ne]; omega)]
        exact ⟨_, rfl⟩
    rw [hb, Option.bind_some, Option.bind_some]
    by_cases hc : (b || ((t.list_.length : Int) == 0)) = true
    · rw [if_pos hc, if_pos hc]
      exact Or.inl ⟨_, rfl, rfl, by decide⟩
    rw [if_neg hc, if_neg hc]
    have hne : t.list_ ≠ [] := fun h => by rw [h] at hc; simp at hc
    have hord : ∃ b, (if (decide ((0 : Int) < (k : Int))) = true then (Option.bind (idx x.terms (w64 ((k : Int) - 1))) fun x156 => some (strLt t.word x156.word || strEq t.word x156.word)) else (some false)) = some b ∧ (b = false → ∀ a, 0 < k → x.terms[k - 1]? = some a → cmpS a.word t.word < 0) := by
      by_cases h0 : 0 < k
      · have e : w64 ((k : Int) - 1) = ((k - 1 : Nat) : Int) := by rw [w64_id (by omega) (by omega)]; omega
        have hk1 : x.terms[k - 1]? = some (x.terms[k - 1]'(by omega)) := List.getElem?_eq_getElem (by omega)
        rw [if_pos (by simpa using h0), e, idx_nat, hk1, Option.bind_some]
        refine ⟨_, rfl, fun hb a _ ha => ?_⟩
        cases ha
        rw [strLt_cmp, strEq_cmp, Bool.or_eq_false_iff, decide_eq_false_iff_not, decide_eq_false_iff_not, ← cmpS_zero] at hb
        rw [cmpS_swap]
        omega
      · rw [if_neg (by simpa using h0)]
        exact ⟨_, rfl, fun _ a h => absurd h h0⟩
    obtain ⟨b2, hb2, hbo⟩ := hord
    rw [hb2, Option.bind_some, Option.bind_some]
    cases b2 with
    | true => exact Or.inl ⟨_, rfl, rfl, by decide⟩
    | false =>
      simp only [Bool.false_eq_true, if_false]
      obtain ⟨c, c1, c2, c3⟩ := term_eq hx t hne (hs.list t htm) (hs.posts t htm)
      rw [c1, c3, Option.bind_some, Option.bind_some]
      by_cases hc0 : c = 0
      · subst hc0
        refine Or.inr ⟨_, _, rfl, rfl, fun j a hj ha => ?_, fun i j a d hij hj ha hd => ?_⟩
        · rcases Nat.lt_or_eq_of_le (Nat.le_of_lt_succ hj) with h | rfl
          · exact i1 j a h ha
          · rw [htk] at ha; cases ha; exact c2 rfl
        · rcases Nat.lt_or_eq_of_le (Nat.le_of_lt_succ hj) with h | rfl
          · exact i3 i j a d hij h ha hd
          · rw [htk] at hd; cases hd
            have hk1 : x.terms[j - 1]? = some (x.terms[j - 1]'(by omega)) := List.getElem?_eq_getElem (by omega)
            have h1 := hbo rfl _ (by omega) hk1
            rcases Nat.lt_or_eq_of_le (Nat.le_sub_one_of_lt hij) with h | rfl
            · exact cmpS_trans (i3 i (j - 1) a _ h (by omega) ha hk1) h1
            · rw [hk1] at ha; cases ha; exact h1
      · refine Or.inl ⟨c, ?_, ?_, hc0⟩
        · rw [if_pos (by simpa using hc0)]
        · rw [if_neg hc0]
          rfl) with ⟨r, a1, a2, h⟩ | ⟨_, _, a1, a2, i1, i3⟩
  · exact Or.inl ⟨r, a1, a2, h⟩
  · refine Or.inr ⟨a1, a2, hx, fun t ht => ?_, fun i j t u hij ht hu => i3 i j t u hij (List.getElem?_eq_some_iff.1 hu).1 ht hu⟩
    obtain ⟨j, hj⟩ := List.mem_iff_getElem?.1 ht
    exact i1 j t (List.getElem?_eq_some_iff.1 hj).1 hj

theorem index_eq (x : know_Index) (hs : Small x) : ∃ c, know_CheckIndex x = some c ∧ portref2_IndexFault x = some c ∧ (c = 0 → IndexOk x) := by
  unfold know_CheckIndex portref2_IndexFault
  cases h1 : decide ((200 : Int) < (x.ids.length : Int)) with
  | true => exact ⟨4, rfl, rfl, fun h => absurd h (by decide)⟩
  | false =>
  cases h2 : ((x.sizes.length : Int) != (x.ids.length : Int)) with
  | true => exact ⟨1, rfl, rfl, fun h => absurd h (by decide)⟩
  | false =>
  rw [decide_eq_false_iff_not] at h1
  have hsz : x.sizes.length = x.ids.length := by simp at h2; omega
  simp only [Bool.false_eq_true, if_false]
  rcases ids_eq x (by omega) hsz with ⟨r, a1, a2, h⟩ | ⟨a1, a2, hx⟩
  · rw [a1, a2]
    exact ⟨r, rfl, rfl, fun h0 => absurd h0 h⟩
  rw [a1, a2]
  simp only [Option.bind_some, Lp.andThen_fin]
  rcases terms_eq hx hs with ⟨r, a1, a2, h⟩ | ⟨a1, a2, hx⟩
  · rw [a1, a2]
    exact ⟨r, rfl, rfl, fun h0 => absurd h0 h⟩
  · rw [a1, a2]
    exact ⟨0, rfl, rfl, fun _ => hx⟩
end Go.Proofs.YtkjlbaacbkdnfaaGreatDoor.M
