/-
  The document's numbers, and the whole of Links: plain part.
-/
import Derived.Test.YtebhdihfjeiadaaGreatDoorKnowWordsKwNums
namespace Go.Proofs.YtebhdihfjeiadaaGreatDoor.M
open Go Go.Pu
set_option linter.unusedSimpArgs false
set_option linter.unusedVariables false

section
variable (s : ByteArray)
theorem links_ref (hs : s.size ≤ 2000000) : ∃ q, whileB (R := List Int) (fun s12 : List Int × Int => if (decide (s12.2 < (s.size : Int))) = true then Option.bind (Option.bind (Option.bind (idxS s s12.2) fun x44 => if ((x44.toNat : Int) != 35) = true then (some true) else (if (decide ((0 : Int) < s12.2)) = true then (Option.bind (idxS s (w64 (s12.2 - 1))) fun x48 => if (portref2_LinksOf_1 (x48.toNat : Int)) = true then (some true) else (some ((x48.toNat : Int) == 35))) else (some false))) fun s37 => if s37 = true then some s12.1 else Option.bind (whileB (R := Empty) (fun s62 => Option.bind (if (decide (s62 < (s.size : Int))) = true then (Option.bind (idxS s s62) fun x73 => some (decide ((48 : Int) ≤ (x73.toNat : Int)))) else (some false)) fun s72 => Option.bind (if s72 = true then (Option.bind (idxS s s62) fun x76 => some (decide ((x76.toNat : Int) ≤ 57))) else (some false)) fun s75 => if s75 = true then some (.nx (w64 (s62 + 1))) else some (.bk s62)) (w64 (s12.2 + 1))) fun o55 => o55.andThen (fun y => y.elim) fun s56 => Option.bind (if (decide ((w64 ((w64 (s56 - s12.2)) - 1)) < 1)) = true then (if true = true then (if true = true then (some true) else (if (decide (s56 < (s.size : Int))) = true then (Option.bind (idxS s s56) fun x94 => some (portref2_LinksOf_1 (x94.toNat : Int))) else (some false))) else (Option.bind (idxS s (w64 (s12.2 + 1))) fun x97 => if ((x97.toNat : Int) == 48) = true then (some true) else (if (decide (s56 < (s.size : Int))) = true then (Option.bind (idxS s s56) fun x101 => some (portref2_LinksOf_1 (x101.toNat : Int))) else (some false)))) else (if (decide ((7 : Int) < (w64 ((w64 (s56 - s12.2)) - 1)))) = true then (if true = true then (some true) else (if (decide (s56 < (s.size : Int))) = true then (Option.bind (idxS s s56) fun x108 => some (portref2_LinksOf_1 (x108.toNat : Int))) else (some false))) else (Option.bind (idxS s (w64 (s12.2 + 1))) fun x111 => if ((x111.toNat : Int) == 48) = true then (some true) else (if (decide (s56 < (s.size : Int))) = true then (Option.bind (idxS s s56) fun x115 => some (portref2_LinksOf_1 (x115.toNat : Int))) else (some false))))) fun s82 => if s82 = true then some s12.1 else Option.bind (sliceS s (some (w64 (s12.2 + 1))) (some s56)) fun x120 => Option.bind (strconv_Atoi x120) fun x121 => Option.bind (appendL 17592186044416 s12.1 ([x121.1] : List Int)) fun x132 => some x132) fun s27 => some (.nx (s27, w64 (s12.2 + 1))) else some (.bk (s12.1, s12.2))) (([] : (List Int)), 0) = some (.fin (numsTo (by_ s) s.size, q)) := by
  have hlen := by_len s
  obtain ⟨o, ho, q, rfl⟩ := whileB_spec (R := List Int) (body := fun s12 : List Int × Int => if (decide (s12.2 < (s.size : Int))) = true then Option.bind (Option.bind (Option.bind (idxS s s12.2) fun x44 => if ((x44.toNat : Int) != 35) = true then (some true) else (if (decide ((0 : Int) < s12.2)) = true then (Option.bind (idxS s (w64 (s12.2 - 1))) fun x48 => if (portref2_LinksOf_1 (x48.toNat : Int)) = true then (some true) else (some ((x48.toNat : Int) == 35))) else (some false))) fun s37 => if s37 = true then some s12.1 else Option.bind (whileB (R := Empty) (fun s62 => Option.bind (if (decide (s62 < (s.size : Int))) = true then (Option.bind (idxS s s62) fun x73 => some (decide ((48 : Int) ≤ (x73.toNat : Int)))) else (some false)) fun s72 => Option.bind (if s72 = true then (Option.bind (idxS s s62) fun x76 => some (decide ((x76.toNat : Int) ≤ 57))) else (some false)) fun s75 => if s75 = true then some (.nx (w64 (s62 + 1))) else some (.bk s62)) (w64 (s12.2 + 1))) fun o55 => o55.andThen (fun y => y.elim) fun s56 => Option.bind (if (decide ((w64 ((w64 (s56 - s12.2)) - 1)) < 1)) = true then (if true = true then (if true = true then (some true) else (if (decide (s56 < (s.size : Int))) = true then (Option.bind (idxS s s56) fun x94 => some (portref2_LinksOf_1 (x94.toNat : Int))) else (some false))) else (Option.bind (idxS s (w64 (s12.2 + 1))) fun x97 => if ((x97.toNat : Int) == 48) = true then (some true) else (if (decide (s56 < (s.size : Int))) = true then (Option.bind (idxS s s56) fun x101 => some (portref2_LinksOf_1 (x101.toNat : Int))) else (some false)))) else (if (decide ((7 : Int) < (w64 ((w64 (s56 - s12.2)) - 1)))) = true then (if true = true then (some true) else (if (decide (s56 < (s.size : Int))) = true then (Option.bind (idxS s s56) fun x108 => some (portref2_LinksOf_1 (x108.toNat : Int))) else (some false))) else (Option.bind (idxS s (w64 (s12.2 + 1))) fun x111 => if ((x111.toNat : Int) == 48) = true then (some true) else (if (decide (s56 < (s.size : Int))) = true then (Option.bind (idxS s s56) fun x115 => some (portref2_LinksOf_1 (x115.toNat : Int))) else (some false))))) fun s82 => if s82 = true then some s12.1 else Option.bind (sliceS s (some (w64 (s12.2 + 1))) (some s56)) fun x120 => Option.bind (strconv_Atoi x120) fun x121 => Option.bind (appendL 17592186044416 s12.1 ([x121.1] : List Int)) fun x132 => some x132) fun s27 => some (.nx (s27, w64 (s12.2 + 1))) else some (.bk (s12.1, s12.2)))
    (fun t => ∃ i : Nat, t = (numsTo (by_ s) i, (i : Int)) ∧ i ≤ s.size) (fun t => s.size - t.2.toNat) (fun o => ∃ q, o = .fin (numsTo (by_ s) s.size, q)) (s := ([], 0)) ⟨0, rfl, Nat.zero_le _⟩ (by
      rintro _ ⟨i, rfl, hi⟩
      simp only
      by_cases hlt : i < s.size
      rotate_left
      · obtain rfl : i = s.size := by omega
        rw [if_neg (by simp)]
        exact ⟨_, rfl, _, rfl⟩
      have hnl := numsTo_len (by_ s) i
      have hw1 : w64 ((i : Int) + 1) = ((i + 1 : Nat) : Int) := by rw [w64_id (by omega) (by omega)]; rfl
      have hgoal : ∀ v : List Int, v = numsTo (by_ s) i ++ numAt (by_ s) i → (∃ i' : Nat, (v, ((i + 1 : Nat) : Int)) = (numsTo (by_ s) i', (i' : Int)) ∧ i' ≤ s.size) ∧ s.size - ((i + 1 : Nat) : Int).toNat < s.size - (i : Int).toNat := by
        rintro v rfl
        exact ⟨⟨i + 1, by rw [numsTo_succ], by omega⟩, by simp only [Int.toNat_natCast]; omega⟩
      rw [if_pos (by simpa using hlt), bad_ref s hs i hlt, Option.bind_some]
      by_cases hbt : badAt (by_ s) i = true
      · rw [hbt, if_pos rfl, Option.bind_some, hw1]
        exact ⟨_, rfl, hgoal _ (by rw [numAt, if_pos hbt, List.append_nil])⟩
      rw [if_neg hbt, ref_digits s hs i hlt, Option.bind_some, Lp.andThen_fin, hw1]
      have hdl := dgs_len (by_ s) (i + 1) (by omega)
      obtain ⟨t, ht, htl⟩ := slice_dgs s hs i hlt
      have hall : (dgs (by_ s) (i + 1)).all dig = true := List.all_takeWhile
      generalize hD : dgs (by_ s) (i + 1) = D at hdl ht htl hall
      have hnum : numAt (by_ s) i = if D.length < 1 ∨ 7 < D.length ∨ (by_ s)[i + 1]? = some 48 ∨ (∃ b, (by_ s)[i + 1 + D.length]? = some b ∧ wordb b = true) then [] else [(dval 0 D : Int)] := by rw [numAt, if_neg hbt, hD]
      have hwd : w64 (w64 (((i + 1 + D.length : Nat) : Int) - (i : Int)) - 1) = (D.length : Int) := by
        rw [w64_id (n := ((i + 1 + D.length : Nat) : Int) - (i : Int)) (by omega) (by omega), w64_id (by omega) (by omega)]
        omega
      rw [hwd]
      by_cases hd0 : D.length = 0
      · rw [if_pos (by rw [hd0]; simp), if_pos trivial, if_pos trivial, Option.bind_some, if_pos rfl, Option.bind_some]
        exact ⟨_, rfl, hgoal _ (by rw [hnum, if_pos (.inl (by omega)), List.append_nil])⟩
      rw [if_neg (by simp; omega)]
      by_cases h7 : D.length ≤ 7
      rotate_left
      · rw [if_pos (by simp; omega), if_pos trivial, Option.bind_some, if_pos rfl, Option.bind_some]
        exact ⟨_, rfl, hgoal _ (by rw [hnum, if_pos (.inr (.inl (by omega))), List.append_nil])⟩
      rw [if_neg (by simp; omega)]
      have hx : (by_ s)[i + 1]? = some ((by_ s)[i + 1]'(by omega)) := List.getElem?_eq_getElem (by omega)
      generalize (by_ s)[i + 1]'(by omega) = c at hx
      rw [idxS_nat, hx, Option.bind_some, eq48]
      by_cases h48 : c = 48
      · rw [decide_eq_true h48, if_pos rfl, Option.bind_some, if_pos rfl, Option.bind_some]
        exact ⟨_, rfl, hgoal _ (by rw [hnum, if_pos (.inr (.inr (.inl (by rw [hx, h48])))), List.append_nil])⟩
      rw [decide_eq_false h48, if_neg (by simp)]
      have hat : strconv_Atoi t = some ((dval 0 D : Int), false) := by
        have hne : D ≠ [] := fun e => hd0 (by rw [e]; rfl)
        have hts : t.size = D.length := by rw [← htl]; show t.data.size = t.data.toList.length; simp
        unfold strconv_Atoi
        rw [if_pos (by omega), htl, atoi_digits D (by omega) hne hall]
      have hadd : ∀ out : List Int, out.length ≤ 2000000 → (Option.bind (sliceS s (some ((i + 1 : Nat) : Int)) (some ((i + 1 + D.length : Nat) : Int))) fun x120 => Option.bind (strconv_Atoi x120) fun x121 => Option.bind (appendL 17592186044416 out ([x121.1] : List Int)) fun x132 => some x132) = some (out ++ [(dval 0 D : Int)]) := by
        intro out hout
        rw [ht, Option.bind_some, hat, Option.bind_some, appendL, if_pos (by simp; omega), Option.bind_some]
      by_cases hend : i + 1 + D.length < s.size
      · have hy : (by_ s)[i + 1 + D.length]? = some ((by_ s)[i + 1 + D.length]'(by omega)) := List.getElem?_eq_getElem (by omega)
        generalize (by_ s)[i + 1 + D.length]'(by omega) = e at hy
        rw [if_pos (by simp; omega), idxS_nat, hy, Option.bind_some, plain_word, Option.bind_some]
        by_cases hwb : wordb e = true
        · rw [if_pos hwb, Option.bind_some]
          exact ⟨_, rfl, hgoal _ (by rw [hnum, if_pos (.inr (.inr (.inr ⟨e, hy, hwb⟩))), List.append_nil])⟩
        · rw [if_neg hwb, hadd _ (by omega), Option.bind_some]
          refine ⟨_, rfl, hgoal _ ?_⟩
          rw [hnum, if_neg]
          rintro (h | h | h | ⟨b, h, h'⟩)
          · omega
          · omega
          · rw [hx] at h; exact h48 (Option.some.inj h)
          · rw [hy] at h; cases h; exact hwb h'
      · rw [if_neg (by simp; omega), Option.bind_some, if_neg (by simp), hadd _ (by omega), Option.bind_some]
        refine ⟨_, rfl, hgoal _ ?_⟩
        rw [hnum, if_neg]
        rintro (h | h | h | ⟨b, h, h'⟩)
        · omega
        · omega
        · rw [hx] at h; exact h48 (Option.some.inj h)
        · have := (List.getElem?_eq_some_iff.1 h).1; omega)
  exact ⟨q, ho⟩
theorem links_eq (hs : s.size ≤ 2000000) : ∃ r, know_Links s = some r ∧ portref2_LinksOf s = some r := by
  obtain ⟨q1, h1⟩ := links_code s hs
  obtain ⟨q2, h2⟩ := links_ref s hs
  have hl := numsTo_len (by_ s) s.size
  unfold know_Links portref2_LinksOf
  rw [h1, h2]
  simp only [Option.bind_some, Lp.andThen_fin]
  rw [sortIntsL, if_pos (by omega)]
  simp only [Option.bind_some]
  rw [compactIntsL, if_pos (by rw [List.length_mergeSort]; omega)]
  exact ⟨_, rfl, rfl⟩
end
end Go.Proofs.YtebhdihfjeiadaaGreatDoor.M
