/-
  The numbers that a body names: plain part.
-/
import Derived.Test.YtebhdihfjeiadaaGreatDoorKnowWordsWrdWords
import Derived.Test.YtebhdihfjeiadaaGreatDoorKnowWordsNumText
namespace Go.Proofs.YtebhdihfjeiadaaGreatDoor.M
open Go Go.Pu
set_option linter.unusedSimpArgs false
set_option linter.unusedVariables false

theorem bytes_at (s : ByteArray) (k : Nat) : s[k]? = s.data.toList[k]? := by
  by_cases h : k < s.size
  · rw [getElem?_pos s k h]
    have h2 : k < s.data.toList.length := h
    rw [List.getElem?_eq_getElem h2]
    rfl
  · rw [getElem?_neg s k h, List.getElem?_eq_none (by simpa using h)]
theorem idxS_nat (s : ByteArray) (k : Nat) : idxS s (k : Int) = s.data.toList[k]? := by
  unfold idxS
  rw [if_pos (by omega), Int.toNat_natCast, bytes_at]

def wordb (b : UInt8) : Bool := dig b || ((decide (97 ≤ b.toNat) && decide (b.toNat ≤ 122)) || (decide (65 ≤ b.toNat) && decide (b.toNat ≤ 90)))
theorem digit_dig (b : UInt8) : know_digit (b.toNat : Int) = dig b := by
  unfold know_digit dig
  rw [Bool.eq_iff_iff]; simp; omega
theorem letter_word (b : UInt8) : (know_digit (b.toNat : Int) || know_letter (b.toNat : Int)) = wordb b := by
  unfold know_digit know_letter wordb dig
  rw [Bool.eq_iff_iff]; simp; omega
theorem letter_word2 (b : UInt8) : (know_letter (b.toNat : Int) || know_digit (b.toNat : Int)) = wordb b := by
  rw [Bool.or_comm, letter_word]
theorem plain_word (b : UInt8) : portref2_LinksOf_1 (b.toNat : Int) = wordb b := by
  unfold portref2_LinksOf_1 portref2_isWordByte wordb dig
  rw [Bool.eq_iff_iff]; simp; omega
/-- the digits behind a place -/
def dgs (L : List UInt8) (i : Nat) : List UInt8 := (L.drop i).takeWhile dig
def badAt (L : List UInt8) (i : Nat) : Bool := decide (L[i]? ≠ some 35) || (decide (0 < i) && (match L[i - 1]? with | some b => wordb b || decide (b = 35) | none => false))
/-- the number that stands behind a sign at a place -/
def numAt (L : List UInt8) (i : Nat) : List Int :=
  if badAt L i = true then [] else if (dgs L (i + 1)).length < 1 ∨ 7 < (dgs L (i + 1)).length ∨ L[i + 1]? = some 48 ∨ (∃ b, L[i + 1 + (dgs L (i + 1)).length]? = some b ∧ wordb b = true) then [] else [(dval 0 (dgs L (i + 1)) : Int)]
theorem dgs_at (L : List UInt8) (i c : Nat) (h : c < (dgs L i).length) : L[i + c]? = some (dgs L i)[c] ∧ dig (dgs L i)[c] = true := by
  have hp : (dgs L i) <+: L.drop i := List.takeWhile_prefix _
  refine ⟨?_, ?_⟩
  · obtain ⟨t, ht⟩ := hp
    have : (L.drop i)[c]? = some (dgs L i)[c] := by
      rw [← ht, List.getElem?_append_left h, List.getElem?_eq_getElem h]
    rwa [List.getElem?_drop] at this
  · exact (List.all_eq_true.1 (List.all_takeWhile (p := dig) (l := L.drop i))) _ (List.getElem_mem h)
theorem dgs_end (L : List UInt8) (i : Nat) (b : UInt8) (h : L[i + (dgs L i).length]? = some b) : dig b = false := by
  have h1 : L.drop i = dgs L i ++ (L.drop i).dropWhile dig := (List.takeWhile_append_dropWhile).symm
  rw [← List.getElem?_drop, h1, List.getElem?_append_right (Nat.le_refl _), Nat.sub_self] at h
  cases hd : (L.drop i).dropWhile dig with
  | nil => rw [hd] at h; cases h
  | cons x r =>
    rw [hd] at h
    have hx : x = b := Option.some.inj h
    have hne : (L.drop i).dropWhile dig ≠ [] := by rw [hd]; simp
    have := List.head_dropWhile_not dig (l := L.drop i) hne
    simp only [hd, List.head_cons] at this
    rw [← hx]
    simpa using this
theorem dgs_len (L : List UInt8) (i : Nat) (hi : i ≤ L.length) : i + (dgs L i).length ≤ L.length := by
  have : (dgs L i).length ≤ (L.drop i).length := (List.takeWhile_prefix _).length_le
  rw [List.length_drop] at this
  omega
theorem dval_small : ∀ (l : List UInt8), l.all dig = true → l.length ≤ 7 → dval 0 l < 10000000 := by
  intro l h hl
  have h1 := dval_lt l h
  have h2 : (10 : Nat) ^ l.length ≤ 10 ^ 7 := Nat.pow_le_pow_right (by decide) hl
  omega
theorem take_dig (L : List UInt8) (i c : Nat) : ((dgs L i).take c).all dig = true := by
  rw [List.all_eq_true]
  intro b hb
  exact (List.all_eq_true.1 (List.all_takeWhile (p := dig) (l := L.drop i))) b (List.mem_of_mem_take hb)
theorem digit_val (b : UInt8) (h : dig b = true) : IntKind.wrap .i64 (((toU8 ((b.toNat : Int) - 48)).toNat : Nat) : Int) = ((b.toNat - 48 : Nat) : Int) := by
  have hb : 48 ≤ b.toNat ∧ b.toNat ≤ 57 := by unfold dig at h; simpa using h
  rw [toU8_nat]
  have e1 : IntKind.u8.wrap ((b.toNat : Int) - 48) = ((b.toNat - 48 : Nat) : Int) := by
    have : (0 : Int) ≤ (b.toNat : Int) - 48 := by omega
    unfold IntKind.wrap
    simp [IntKind.bits, IntKind.signed]
    omega
  rw [e1]
  exact w64_id (by omega) (by omega)
section
variable (s : ByteArray)
abbrev by_ : List UInt8 := s.data.toList
theorem by_len : (by_ s).length = s.size := by show s.data.toList.length = s.data.size; simp
/-- the code's digits -/
theorem code_digits (hs : s.size ≤ 2000000) (i : Nat) (hi : i < s.size) : whileB (R := Empty) (fun s55 : Int × Int => Option.bind (if (decide (s55.2 < (s.size : Int))) = true then (Option.bind (idxS s s55.2) fun x66 => some (know_digit (x66.toNat : Int))) else (some false)) fun s65 => if (s65 && (decide ((w64 (s55.2 - (i : Int))) ≤ 7))) = true then Option.bind (idxS s s55.2) fun x70 => some (.nx (w64 ((w64 (10 * s55.1)) + (IntKind.wrap .i64 ((toU8 ((x70.toNat : Int) - 48)).toNat : Int))), w64 (s55.2 + 1))) else some (.bk (s55.1, s55.2))) (0, w64 ((i : Int) + 1))
    = some (.fin ((dval 0 ((dgs (by_ s) (i + 1)).take 7) : Int), ((i + 1 + min (dgs (by_ s) (i + 1)).length 7 : Nat) : Int))) := by
  have hlen := by_len s
  have hdl := dgs_len (by_ s) (i + 1) (by omega)
  have hw1 : w64 ((i : Int) + 1) = ((i + 1 : Nat) : Int) := by rw [w64_id (by omega) (by omega)]; rfl
  rw [hw1]
  obtain ⟨o, ho, rfl⟩ := whileB_spec (R := Empty) (body := fun s55 : Int × Int => Option.bind (if (decide (s55.2 < (s.size : Int))) = true then (Option.bind (idxS s s55.2) fun x66 => some (know_digit (x66.toNat : Int))) else (some false)) fun s65 => if (s65 && (decide ((w64 (s55.2 - (i : Int))) ≤ 7))) = true then Option.bind (idxS s s55.2) fun x70 => some (.nx (w64 ((w64 (10 * s55.1)) + (IntKind.wrap .i64 ((toU8 ((x70.toNat : Int) - 48)).toNat : Int))), w64 (s55.2 + 1))) else some (.bk (s55.1, s55.2)))
    (fun t => ∃ c : Nat, t = ((dval 0 ((dgs (by_ s) (i + 1)).take c) : Int), ((i + 1 + c : Nat) : Int)) ∧ c ≤ (dgs (by_ s) (i + 1)).length ∧ c ≤ 7) (fun t => s.size + 1 - t.2.toNat)
    (fun o => o = .fin ((dval 0 ((dgs (by_ s) (i + 1)).take 7) : Int), ((i + 1 + min (dgs (by_ s) (i + 1)).length 7 : Nat) : Int))) (s := (0, ((i + 1 : Nat) : Int))) ⟨0, rfl, Nat.zero_le _, by omega⟩ (by
      rintro _ ⟨c, rfl, c1, c2⟩
      simp only
      have hwk : w64 (((i + 1 + c : Nat) : Int) - (i : Int)) = ((c + 1 : Nat) : Int) := by rw [w64_id (by omega) (by omega)]; omega
      have hwn : w64 (((i + 1 + c : Nat) : Int) + 1) = ((i + 1 + (c + 1) : Nat) : Int) := by rw [w64_id (by omega) (by omega)]; omega
      by_cases hc : c < (dgs (by_ s) (i + 1)).length
      · obtain ⟨g1, g2⟩ := dgs_at (by_ s) (i + 1) c hc
        rw [if_pos (by simp; omega), idxS_nat, g1, Option.bind_some, Option.bind_some, digit_dig, g2, hwk]
        by_cases h7 : c < 7
        · rw [if_pos (by simp; omega), Option.bind_some, hwn, digit_val _ g2]
          have hsm := dval_small _ (take_dig (by_ s) (i + 1) c) (by rw [List.length_take]; omega)
          have htk : (dgs (by_ s) (i + 1)).take (c + 1) = (dgs (by_ s) (i + 1)).take c ++ [(dgs (by_ s) (i + 1))[c]] := by rw [List.take_add_one, List.getElem?_eq_getElem hc]; rfl
          have hd : dval 0 ((dgs (by_ s) (i + 1)).take (c + 1)) = dval 0 ((dgs (by_ s) (i + 1)).take c) * 10 + ((dgs (by_ s) (i + 1))[c].toNat - 48) := by rw [htk, dval_snoc]
          have hb := (dgs (by_ s) (i + 1))[c].toNat_lt
          have hw2 : w64 (10 * (dval 0 ((dgs (by_ s) (i + 1)).take c) : Int)) = 10 * (dval 0 ((dgs (by_ s) (i + 1)).take c) : Int) := w64_id (by omega) (by omega)
          rw [hw2, w64_id (by omega) (by omega)]
          refine ⟨_, rfl, ⟨c + 1, ?_, by omega, by omega⟩, by simp only [Int.toNat_natCast]; omega⟩
          rw [hd]
          simp only [Prod.mk.injEq, and_true]
          omega
        · obtain rfl : c = 7 := by omega
          rw [if_neg (by simp)]
          refine ⟨_, rfl, ?_⟩
          show Lp.fin _ = _
          rw [show min (dgs (by_ s) (i + 1)).length 7 = 7 by omega]
      · obtain rfl : c = (dgs (by_ s) (i + 1)).length := by omega
        have hno : (if (decide (((i + 1 + (dgs (by_ s) (i + 1)).length : Nat) : Int) < (s.size : Int))) = true then (Option.bind (idxS s ((i + 1 + (dgs (by_ s) (i + 1)).length : Nat) : Int)) fun x66 => some (know_digit (x66.toNat : Int))) else (some false)) = some false := by
          by_cases hk : i + 1 + (dgs (by_ s) (i + 1)).length < s.size
          · have hx : (by_ s)[i + 1 + (dgs (by_ s) (i + 1)).length]? = some ((by_ s)[i + 1 + (dgs (by_ s) (i + 1)).length]'(by omega)) := List.getElem?_eq_getElem (by omega)
            rw [if_pos (by simp; omega), idxS_nat, hx, Option.bind_some, digit_dig, dgs_end _ _ _ hx]
          · rw [if_neg (by simp; omega)]
        rw [hno, Option.bind_some, if_neg (by simp)]
        refine ⟨_, rfl, ?_⟩
        show Lp.fin _ = _
        rw [show min (dgs (by_ s) (i + 1)).length 7 = (dgs (by_ s) (i + 1)).length by omega, List.take_of_length_le c2, List.take_of_length_le (Nat.le_refl _)])
  exact ho
/-- the document's digits -/
theorem ref_digits (hs : s.size ≤ 2000000) (i : Nat) (hi : i < s.size) : whileB (R := Empty) (fun s62 : Int => Option.bind (if (decide (s62 < (s.size : Int))) = true then (Option.bind (idxS s s62) fun x73 => some (decide ((48 : Int) ≤ (x73.toNat : Int)))) else (some false)) fun s72 => Option.bind (if s72 = true then (Option.bind (idxS s s62) fun x76 => some (decide ((x76.toNat : Int) ≤ 57))) else (some false)) fun s75 => if s75 = true then some (.nx (w64 (s62 + 1))) else some (.bk s62)) (w64 ((i : Int) + 1))
    = some (.fin ((i + 1 + (dgs (by_ s) (i + 1)).length : Nat) : Int)) := by
  have hlen := by_len s
  have hdl := dgs_len (by_ s) (i + 1) (by omega)
  have hw1 : w64 ((i : Int) + 1) = ((i + 1 : Nat) : Int) := by rw [w64_id (by omega) (by omega)]; rfl
  rw [hw1]
  obtain ⟨o, ho, rfl⟩ := whileB_spec (R := Empty) (body := fun s62 : Int => Option.bind (if (decide (s62 < (s.size : Int))) = true then (Option.bind (idxS s s62) fun x73 => some (decide ((48 : Int) ≤ (x73.toNat : Int)))) else (some false)) fun s72 => Option.bind (if s72 = true then (Option.bind (idxS s s62) fun x76 => some (decide ((x76.toNat : Int) ≤ 57))) else (some false)) fun s75 => if s75 = true then some (.nx (w64 (s62 + 1))) else some (.bk s62))
    (fun t => ∃ c : Nat, t = ((i + 1 + c : Nat) : Int) ∧ c ≤ (dgs (by_ s) (i + 1)).length) (fun t => s.size + 1 - t.toNat)
    (fun o => o = .fin ((i + 1 + (dgs (by_ s) (i + 1)).length : Nat) : Int)) (s := ((i + 1 : Nat) : Int)) ⟨0, rfl, Nat.zero_le _⟩ (by
      rintro _ ⟨c, rfl, c1⟩
      have hwn : w64 (((i + 1 + c : Nat) : Int) + 1) = ((i + 1 + (c + 1) : Nat) : Int) := by rw [w64_id (by omega) (by omega)]; omega
      have hcond : ∀ b : UInt8, (by_ s)[i + 1 + c]? = some b → (Option.bind (if (decide (((i + 1 + c : Nat) : Int) < (s.size : Int))) = true then (Option.bind (idxS s ((i + 1 + c : Nat) : Int)) fun x73 => some (decide ((48 : Int) ≤ (x73.toNat : Int)))) else (some false)) fun s72 => (if s72 = true then (Option.bind (idxS s ((i + 1 + c : Nat) : Int)) fun x76 => some (decide ((x76.toNat : Int) ≤ 57))) else (some false))) = some (dig b) := by
        intro b hb
        have hlt : i + 1 + c < s.size := by have := (List.getElem?_eq_some_iff.1 hb).1; omega
        rw [if_pos (by simp; omega), idxS_nat, hb, Option.bind_some, Option.bind_some, Option.bind_some]
        unfold dig
        by_cases h48 : 48 ≤ b.toNat
        · rw [if_pos (by simp; omega), decide_eq_true h48, Bool.true_and]
          congr 1
          rw [Bool.eq_iff_iff]; simp; omega
        · rw [if_neg (by simp; omega), decide_eq_false h48, Bool.false_and]
      rw [← Option.bind_assoc]
      by_cases hc : c < (dgs (by_ s) (i + 1)).length
      · obtain ⟨g1, g2⟩ := dgs_at (by_ s) (i + 1) c hc
        rw [hcond _ g1, Option.bind_some, g2, if_pos rfl, hwn]
        exact ⟨_, rfl, ⟨c + 1, rfl, by omega⟩, by simp only [Int.toNat_natCast]; omega⟩
      · obtain rfl : c = (dgs (by_ s) (i + 1)).length := by omega
        by_cases hk : i + 1 + (dgs (by_ s) (i + 1)).length < s.size
        · have hx : (by_ s)[i + 1 + (dgs (by_ s) (i + 1)).length]? = some ((by_ s)[i + 1 + (dgs (by_ s) (i + 1)).length]'(by omega)) := List.getElem?_eq_getElem (by omega)
          rw [hcond _ hx, Option.bind_some, dgs_end _ _ _ hx, if_neg (by simp)]
          exact ⟨_, rfl, rfl⟩
        · rw [if_neg (by simp; omega), Option.bind_some, if_neg (by simp), Option.bind_some, if_neg (by simp)]
          exact ⟨_, rfl, rfl⟩)
  exact ho
end
end Go.Proofs.YtebhdihfjeiadaaGreatDoor.M
