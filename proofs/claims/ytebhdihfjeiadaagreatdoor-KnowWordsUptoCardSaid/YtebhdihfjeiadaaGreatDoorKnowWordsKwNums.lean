/-
  Links and its document agree: plain part.
-/
import Derived.Test.YtebhdihfjeiadaaGreatDoorKnowWordsKwLinks
namespace Go.Proofs.YtebhdihfjeiadaaGreatDoor.M
open Go Go.Pu
set_option linter.unusedSimpArgs false
set_option linter.unusedVariables false

section
variable (s : ByteArray)
/-- the numbers of the first places -/
def numsTo (L : List UInt8) (i : Nat) : List Int := (List.range i).flatMap (numAt L)
theorem numsTo_succ (L : List UInt8) (i : Nat) : numsTo L (i + 1) = numsTo L i ++ numAt L i := by
  unfold numsTo
  rw [List.range_succ, List.flatMap_append]
  simp
theorem numAt_len (L : List UInt8) (i : Nat) : (numAt L i).length ≤ 1 := by
  unfold numAt
  split
  · simp
  · split <;> simp
theorem numsTo_len (L : List UInt8) : ∀ i, (numsTo L i).length ≤ i
  | 0 => by simp [numsTo]
  | i + 1 => by
    rw [numsTo_succ, List.length_append]
    have := numsTo_len L i
    have := numAt_len L i
    omega
/-- a place that does not begin a number -/
theorem bad_code (hs : s.size ≤ 2000000) (i : Nat) (hi : i < s.size) : (Option.bind (idxS s (i : Int)) fun x36 => Option.bind (if ((x36.toNat : Int) != 35) = true then (some true) else (Option.bind (if (decide ((0 : Int) < (i : Int))) = true then (Option.bind (idxS s (w64 ((i : Int) - 1))) fun x41 => Option.bind (if (know_letter (x41.toNat : Int)) = true then (some true) else (some (know_digit (x41.toNat : Int)))) fun s43 => Option.bind (if s43 = true then (some true) else (some ((x41.toNat : Int) == 35))) fun s45 => some s45) else (some false)) fun s40 => some s40)) fun s38 => some s38) = some (badAt (by_ s) i) := by
  have hlen := by_len s
  have hx : (by_ s)[i]? = some ((by_ s)[i]'(by omega)) := List.getElem?_eq_getElem (by omega)
  generalize (by_ s)[i]'(by omega) = b at hx
  rw [idxS_nat, hx, Option.bind_some]
  unfold badAt
  rw [hx]
  have hb : ((b.toNat : Int) != 35) = decide (some b ≠ some 35) := by
    rw [Bool.eq_iff_iff, bne_iff_ne, decide_eq_true_eq]
    constructor
    · intro h e; cases e; exact h rfl
    · intro h e; apply h; congr 1; apply UInt8.toNat_inj.1; show b.toNat = 35; omega
  rw [hb]
  by_cases h35 : decide (some b ≠ some 35) = true
  · rw [if_pos h35, h35]; rfl
  · rw [if_neg h35]
    have h35' : decide (some b ≠ some 35) = false := by simpa using h35
    rw [h35', Bool.false_or]
    by_cases h0 : 0 < i
    · have hw : w64 ((i : Int) - 1) = ((i - 1 : Nat) : Int) := by rw [w64_id (by omega) (by omega)]; omega
      have hy : (by_ s)[i - 1]? = some ((by_ s)[i - 1]'(by omega)) := List.getElem?_eq_getElem (by omega)
      generalize (by_ s)[i - 1]'(by omega) = c at hy
      rw [if_pos (by simp; omega), hw, idxS_nat, hy, Option.bind_some, decide_eq_true h0, Bool.true_and]
      have e1 : (if (know_letter (c.toNat : Int)) = true then (some true) else (some (know_digit (c.toNat : Int)))) = some (wordb c) := by
        rw [← letter_word2]
        cases know_letter (c.toNat : Int) <;> rfl
      have e2 : ((c.toNat : Int) == 35) = decide (c = 35) := by
        rw [Bool.eq_iff_iff, beq_iff_eq, decide_eq_true_eq]
        constructor
        · intro h; apply UInt8.toNat_inj.1; show c.toNat = 35; omega
        · intro h; subst h; rfl
      rw [e1, Option.bind_some, e2]
      show _ = some (wordb c || decide (c = 35))
      cases wordb c <;> rfl
    · rw [if_neg (by simp; omega), decide_eq_false h0]
      rfl
theorem bad_ref (hs : s.size ≤ 2000000) (i : Nat) (hi : i < s.size) : (Option.bind (idxS s (i : Int)) fun x44 => if ((x44.toNat : Int) != 35) = true then (some true) else (if (decide ((0 : Int) < (i : Int))) = true then (Option.bind (idxS s (w64 ((i : Int) - 1))) fun x48 => if (portref2_LinksOf_1 (x48.toNat : Int)) = true then (some true) else (some ((x48.toNat : Int) == 35))) else (some false))) = some (badAt (by_ s) i) := by
  rw [← bad_code s hs i hi]
  have hlen := by_len s
  have hx : (by_ s)[i]? = some ((by_ s)[i]'(by omega)) := List.getElem?_eq_getElem (by omega)
  generalize (by_ s)[i]'(by omega) = b at hx
  rw [idxS_nat, hx, Option.bind_some, Option.bind_some]
  by_cases h35 : ((b.toNat : Int) != 35) = true
  · rw [if_pos h35, if_pos h35]; rfl
  · rw [if_neg h35, if_neg h35]
    by_cases h0 : 0 < i
    · have hw : w64 ((i : Int) - 1) = ((i - 1 : Nat) : Int) := by rw [w64_id (by omega) (by omega)]; omega
      have hy : (by_ s)[i - 1]? = some ((by_ s)[i - 1]'(by omega)) := List.getElem?_eq_getElem (by omega)
      generalize (by_ s)[i - 1]'(by omega) = c at hy
      rw [if_pos (by simp; omega), if_pos (by simp; omega), hw, idxS_nat, hy, Option.bind_some, Option.bind_some]
      have e1 : (if (know_letter (c.toNat : Int)) = true then (some true) else (some (know_digit (c.toNat : Int)))) = some (wordb c) := by
        rw [← letter_word2]
        cases know_letter (c.toNat : Int) <;> rfl
      rw [e1, Option.bind_some, plain_word]
      cases wordb c <;> rfl
    · rw [if_neg (by simp; omega), if_neg (by simp; omega)]
      rfl
theorem eq48 (c : UInt8) : ((c.toNat : Int) == 48) = decide (c = 48) := by
  rw [Bool.eq_iff_iff, beq_iff_eq, decide_eq_true_eq]
  constructor
  · intro h; apply UInt8.toNat_inj.1; show c.toNat = 48; omega
  · intro h; subst h; rfl
theorem slice_dgs (hs : s.size ≤ 2000000) (i : Nat) (hi : i < s.size) : ∃ t, sliceS s (some ((i + 1 : Nat) : Int)) (some ((i + 1 + (dgs (by_ s) (i + 1)).length : Nat) : Int)) = some t ∧ t.data.toList = dgs (by_ s) (i + 1) := by
  have hlen := by_len s
  have hdl := dgs_len (by_ s) (i + 1) (by omega)
  refine ⟨s.extract (i + 1) (i + 1 + (dgs (by_ s) (i + 1)).length), ?_, ?_⟩
  · unfold sliceS bounds
    simp only [Option.getD_some]
    rw [if_pos (by omega)]
    simp
    congr 1
  · rw [ByteArray.data_extract, Array.toList_extract, List.extract_eq_take_drop]
    have hp : (dgs (by_ s) (i + 1)) <+: (by_ s).drop (i + 1) := List.takeWhile_prefix _
    rw [show i + 1 + (dgs (by_ s) (i + 1)).length - (i + 1) = (dgs (by_ s) (i + 1)).length by omega]
    exact (List.prefix_iff_eq_take.1 hp).symm
theorem links_code (hs : s.size ≤ 2000000) : ∃ q, whileB (R := List Int) (fun s12 : List Int × Int => if (decide (s12.2 < (s.size : Int))) = true then Option.bind (Option.bind (idxS s s12.2) fun x36 => Option.bind (if ((x36.toNat : Int) != 35) = true then (some true) else (Option.bind (if (decide ((0 : Int) < s12.2)) = true then (Option.bind (idxS s (w64 (s12.2 - 1))) fun x41 => Option.bind (if (know_letter (x41.toNat : Int)) = true then (some true) else (some (know_digit (x41.toNat : Int)))) fun s43 => Option.bind (if s43 = true then (some true) else (some ((x41.toNat : Int) == 35))) fun s45 => some s45) else (some false)) fun s40 => some s40)) fun s38 => if s38 = true then some s12.1 else Option.bind (whileB (R := Empty) (fun s55 => Option.bind (if (decide (s55.2 < (s.size : Int))) = true then (Option.bind (idxS s s55.2) fun x66 => some (know_digit (x66.toNat : Int))) else (some false)) fun s65 => if (s65 && (decide ((w64 (s55.2 - s12.2)) ≤ 7))) = true then Option.bind (idxS s s55.2) fun x70 => some (.nx (w64 ((w64 (10 * s55.1)) + (IntKind.wrap .i64 ((toU8 ((x70.toNat : Int) - 48)).toNat : Int))), w64 (s55.2 + 1))) else some (.bk (s55.1, s55.2))) (0, w64 (s12.2 + 1))) fun o48 => o48.andThen (fun y => y.elim) fun s49 => Option.bind (if (s49.2 == (w64 (s12.2 + 1))) = true then (some true) else (Option.bind (idxS s (w64 (s12.2 + 1))) fun x76 => some ((x76.toNat : Int) == 48))) fun s75 => Option.bind (if s75 = true then (some true) else (Option.bind (if (decide (s49.2 < (s.size : Int))) = true then (Option.bind (idxS s s49.2) fun x81 => Option.bind (if (know_digit (x81.toNat : Int)) = true then (some true) else (some (know_letter (x81.toNat : Int)))) fun s83 => some s83) else (some false)) fun s80 => some s80)) fun s78 => if s78 = true then some s12.1 else Option.bind (appendL 17592186044416 s12.1 ([s49.1] : List Int)) fun x91 => some x91) fun s27 => some (.nx (s27, w64 (s12.2 + 1))) else some (.bk (s12.1, s12.2))) (([] : (List Int)), 0) = some (.fin (numsTo (by_ s) s.size, q)) := by
  have hlen := by_len s
  obtain ⟨o, ho, q, rfl⟩ := whileB_spec (R := List Int) (body := fun s12 : List Int × Int => if (decide (s12.2 < (s.size : Int))) = true then Option.bind (Option.bind (idxS s s12.2) fun x36 => Option.bind (if ((x36.toNat : Int) != 35) = true then (some true) else (Option.bind (if (decide ((0 : Int) < s12.2)) = true then (Option.bind (idxS s (w64 (s12.2 - 1))) fun x41 => Option.bind (if (know_letter (x41.toNat : Int)) = true then (some true) else (some (know_digit (x41.toNat : Int)))) fun s43 => Option.bind (if s43 = true then (some true) else (some ((x41.toNat : Int) == 35))) fun s45 => some s45) else (some false)) fun s40 => some s40)) fun s38 => if s38 = true then some s12.1 else Option.bind (whileB (R := Empty) (fun s55 => Option.bind (if (decide (s55.2 < (s.size : Int))) = true then (Option.bind (idxS s s55.2) fun x66 => some (know_digit (x66.toNat : Int))) else (some false)) fun s65 => if (s65 && (decide ((w64 (s55.2 - s12.2)) ≤ 7))) = true then Option.bind (idxS s s55.2) fun x70 => some (.nx (w64 ((w64 (10 * s55.1)) + (IntKind.wrap .i64 ((toU8 ((x70.toNat : Int) - 48)).toNat : Int))), w64 (s55.2 + 1))) else some (.bk (s55.1, s55.2))) (0, w64 (s12.2 + 1))) fun o48 => o48.andThen (fun y => y.elim) fun s49 => Option.bind (if (s49.2 == (w64 (s12.2 + 1))) = true then (some true) else (Option.bind (idxS s (w64 (s12.2 + 1))) fun x76 => some ((x76.toNat : Int) == 48))) fun s75 => Option.bind (if s75 = true then (some true) else (Option.bind (if (decide (s49.2 < (s.size : Int))) = true then (Option.bind (idxS s s49.2) fun x81 => Option.bind (if (know_digit (x81.toNat : Int)) = true then (some true) else (some (know_letter (x81.toNat : Int)))) fun s83 => some s83) else (some false)) fun s80 => some s80)) fun s78 => if s78 = true then some s12.1 else Option.bind (appendL 17592186044416 s12.1 ([s49.1] : List Int)) fun x91 => some x91) fun s27 => some (.nx (s27, w64 (s12.2 + 1))) else some (.bk (s12.1, s12.2)))
    (fun t => ∃ i : Nat, t = (numsTo (by_ s) i, (i : Int)) ∧ i ≤ s.size) (fun t => s.size - t.2.toNat) (fun o => ∃ q, o = .fin (numsTo (by_ s) s.size, q)) (s := ([], 0)) ⟨0, rfl, Nat.zero_le _⟩ (by
      rintro _ ⟨i, rfl, hi⟩
      simp only
      by_cases hlt : i < s.size
      rotate_left
      · obtain rfl : i = s.size := by omega
        rw [if_neg (by simp)]
        exact ⟨_, rfl, _, rfl⟩
      have hnl := numsTo_len (by_ s) i
      have hw1 : w64 ((i : Int) + 1) = ((i + 1 : Nat) : Int) := by rw [w64_id (by omega) (by omega)]; rfl
      rw [if_pos (by simpa using hlt)]
      have hbad := bad_code s hs i hlt
      obtain ⟨x36, hx36, hb2⟩ := Option.bind_eq_some_iff.1 hbad
      obtain ⟨s38, hs38, hb3⟩ := Option.bind_eq_some_iff.1 hb2
      have hb4 : s38 = badAt (by_ s) i := Option.some.inj hb3
      rw [hx36, Option.bind_some, hs38, Option.bind_some, hb4]
      have hgoal : ∀ v : List Int, v = numsTo (by_ s) i ++ numAt (by_ s) i → (∃ i' : Nat, (v, ((i + 1 : Nat) : Int)) = (numsTo (by_ s) i', (i' : Int)) ∧ i' ≤ s.size) ∧ s.size - ((i + 1 : Nat) : Int).toNat < s.size - (i : Int).toNat := by
        rintro v rfl
        exact ⟨⟨i + 1, by rw [numsTo_succ], by omega⟩, by simp only [Int.toNat_natCast]; omega⟩
      by_cases hbt : badAt (by_ s) i = true
      · rw [hbt, if_pos rfl, Option.bind_some, hw1]
        exact ⟨_, rfl, hgoal _ (by rw [numAt, if_pos hbt, List.append_nil])⟩
      rw [if_neg hbt, code_digits s hs i hlt, Option.bind_some, Lp.andThen_fin, hw1]
      have hdl := dgs_len (by_ s) (i + 1) (by omega)
      generalize hD : dgs (by_ s) (i + 1) = D at hdl
      have hnum : numAt (by_ s) i = if D.length < 1 ∨ 7 < D.length ∨ (by_ s)[i + 1]? = some 48 ∨ (∃ b, (by_ s)[i + 1 + D.length]? = some b ∧ wordb b = true) then [] else [(dval 0 D : Int)] := by rw [numAt, if_neg hbt, hD]
      by_cases hd0 : D.length = 0
      · rw [if_pos (by rw [hd0]; simp), Option.bind_some, if_pos rfl, Option.bind_some, if_pos rfl, Option.bind_some]
        exact ⟨_, rfl, hgoal _ (by rw [hnum, if_pos (.inl (by omega)), List.append_nil])⟩
      have hne : ((((i + 1 + min D.length 7 : Nat) : Int)) == ((i + 1 : Nat) : Int)) = false := by rw [beq_eq_false_iff_ne]; omega
      have hx : (by_ s)[i + 1]? = some ((by_ s)[i + 1]'(by omega)) := List.getElem?_eq_getElem (by omega)
      generalize (by_ s)[i + 1]'(by omega) = c at hx
      simp only [hne, Bool.false_eq_true, if_false]
      rw [idxS_nat, hx, Option.bind_some, Option.bind_some, eq48]
      by_cases h48 : c = 48
      · rw [decide_eq_true h48, if_pos rfl, Option.bind_some, if_pos rfl, Option.bind_some]
        exact ⟨_, rfl, hgoal _ (by rw [hnum, if_pos (.inr (.inr (.inl (by rw [hx, h48])))), List.append_nil])⟩
      rw [decide_eq_false h48, if_neg (by simp)]
      by_cases h7 : D.length ≤ 7
      · rw [show min D.length 7 = D.length by omega, List.take_of_length_le h7]
        by_cases hend : i + 1 + D.length < s.size
        · have hy : (by_ s)[i + 1 + D.length]? = some ((by_ s)[i + 1 + D.length]'(by omega)) := List.getElem?_eq_getElem (by omega)
          generalize (by_ s)[i + 1 + D.length]'(by omega) = e at hy
          have e1 : (if (know_digit (e.toNat : Int)) = true then (some true) else (some (know_letter (e.toNat : Int)))) = some (wordb e) := by
            rw [← letter_word]
            cases know_digit (e.toNat : Int) <;> rfl
          rw [if_pos (by simp; omega), idxS_nat, hy, Option.bind_some, e1, Option.bind_some, Option.bind_some, Option.bind_some]
          by_cases hwb : wordb e = true
          · rw [if_pos hwb, Option.bind_some]
            exact ⟨_, rfl, hgoal _ (by rw [hnum, if_pos (.inr (.inr (.inr ⟨e, hy, hwb⟩))), List.append_nil])⟩
          · rw [if_neg hwb, appendL, if_pos (by simp; omega), Option.bind_some, Option.bind_some]
            refine ⟨_, rfl, hgoal _ ?_⟩
            rw [hnum, if_neg]
            rintro (h | h | h | ⟨b, h, h'⟩)
            · omega
            · omega
            · rw [hx] at h; exact h48 (Option.some.inj h)
            · rw [hy] at h; cases h; exact hwb h'
        · rw [if_neg (by simp; omega), Option.bind_some, Option.bind_some, if_neg (by simp), appendL, if_pos (by simp; omega), Option.bind_some, Option.bind_some]
          refine ⟨_, rfl, hgoal _ ?_⟩
          rw [hnum, if_neg]
          rintro (h | h | h | ⟨b, h, h'⟩)
          · omega
          · omega
          · rw [hx] at h; exact h48 (Option.some.inj h)
          · have := (List.getElem?_eq_some_iff.1 h).1; omega
      · obtain ⟨g1, g2⟩ := dgs_at (by_ s) (i + 1) 7 (by rw [hD]; omega)
        have hlt8 : i + 1 + 7 < s.size := by have := (List.getElem?_eq_some_iff.1 g1).1; omega
        rw [show min D.length 7 = 7 by omega, if_pos (by simp; omega), idxS_nat, g1, Option.bind_some, digit_dig, g2, if_pos rfl, Option.bind_some, Option.bind_some, Option.bind_some, if_pos rfl, Option.bind_some]
        exact ⟨_, rfl, hgoal _ (by rw [hnum, if_pos (.inr (.inl (by omega))), List.append_nil])⟩)
  exact ⟨q, ho⟩
end
end Go.Proofs.YtebhdihfjeiadaaGreatDoor.M
