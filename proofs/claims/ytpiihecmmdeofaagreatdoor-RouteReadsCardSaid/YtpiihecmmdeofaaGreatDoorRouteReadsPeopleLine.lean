/-
  A line with a person, by the code and by the document: plain part.
-/
import Derived.Test.YtpiihecmmdeofaaGreatDoorRouteReadsLineBase
import Derived.Test.YtpiihecmmdeofaaGreatDoorRouteReadsRouteNumber
namespace Go.Proofs.YtpiihecmmdeofaaGreatDoor.M
open Go Go.Pu
set_option linter.unusedSimpArgs false
set_option linter.unusedVariables false

def prsR : List (List UInt8) → Option (List route_Skill)
  | [] => some []
  | [_] => none
  | n :: r :: t => if n ≠ [] ∧ canB 9 r = true then (prsR t).map (⟨tb n, numOf r⟩ :: ·) else none
def personW : List UInt8 := [112, 101, 114, 115, 111, 110]
def perW : List (List UInt8) → Option route_Person
  | w0 :: a :: b :: c :: rest => if w0 = personW ∧ rest.length % 2 = 0 ∧ canB 9 a = true ∧ canB 9 b = true ∧ canB 9 c = true then (prsR rest).map fun sk => ⟨numOf a, numOf b, numOf c, sk⟩ else none
  | _ => none
theorem prsR_len : ∀ (l : List (List UInt8)) (sk : List route_Skill), prsR l = some sk → sk.length ≤ l.length
  | [], sk, h => by cases h; simp
  | [_], sk, h => by cases h
  | n :: r :: t, sk, h => by
    rw [prsR] at h
    split at h
    · obtain ⟨q, h1, rfl⟩ := Option.map_eq_some_iff.1 h
      have := prsR_len t q h1
      simp only [List.length_cons]
      omega
    · cases h
theorem prsR_names (m : Nat) : ∀ (l : List (List UInt8)) (sk : List route_Skill), (∀ w ∈ l, w.length ≤ m) → prsR l = some sk → ∀ k ∈ sk, k.name.size ≤ m
  | [], sk, _, h => by cases h; simp
  | [_], sk, _, h => by cases h
  | n :: r :: t, sk, hw, h => by
    rw [prsR] at h
    split at h
    · obtain ⟨q, h1, rfl⟩ := Option.map_eq_some_iff.1 h
      intro k hk
      rcases List.mem_cons.1 hk with rfl | hk
      · show (tb n).size ≤ m
        rw [tb_size]
        exact hw n (by simp)
      · exact prsR_names m t q (fun w hw' => hw w (by simp [hw'])) h1 k hk
    · cases h
theorem code_num (l : List UInt8) (hl : l.length ≤ 400000) : route_number (tb l) = some (if canB 9 l = true then (numOf l, true) else (0, false)) := num_code l (by omega)
theorem doc_num (l : List UInt8) (hl : l.length ≤ 400000) : portref2_number (tb l) 9 = some (if canB 9 l = true then (numOf l, true) else (0, false)) := num_ref l (by omega) 9 (by omega)
/-- the code's loop over skills -/
theorem code_skills (w0 a b c : List UInt8) (rest : List (List UInt8)) (hw : ∀ w ∈ rest, w.length ≤ 400000) (hn : rest.length ≤ 400001) (he : rest.length % 2 = 0) (A B C : Int) (z : route_Person) :
    ∃ o, whileB (R := route_Person × Bool) (fun s166 : Int × route_Person × route_Person => if (decide (s166.1 < (((w0 :: a :: b :: c :: rest).map tb).length : Int))) = true then Option.bind (idx ((w0 :: a :: b :: c :: rest).map tb) (w64 (s166.1 + 1))) fun x182 => Option.bind (route_number x182) fun x186 => Option.bind (if (!x186.2) = true then (some true) else (Option.bind (idx ((w0 :: a :: b :: c :: rest).map tb) s166.1) fun x192 => some (strEq x192 (⟨#[]⟩ : ByteArray)))) fun s191 => if s191 = true then some (.rt (s166.2.1, false)) else Option.bind (idx ((w0 :: a :: b :: c :: rest).map tb) s166.1) fun x211 => Option.bind (appendL 5864062014805 s166.2.1.skills ([(⟨x211, x186.1⟩ : route_Skill)] : List route_Skill)) fun x220 => some (.nx (w64 (s166.1 + 2), (⟨s166.2.1.no, s166.2.1.capacity, s166.2.1.calendar, x220⟩ : route_Person), s166.2.2)) else some (.bk (s166.1, s166.2.1, s166.2.2))) (4, (⟨A, B, C, []⟩ : route_Person), z) = some o ∧ ((∃ q, prsR rest = none ∧ o = .rt (q, false)) ∨ ∃ sk q, prsR rest = some sk ∧ o = .fin (q, ⟨A, B, C, sk⟩, z)) := by
  obtain ⟨o, ho, hq⟩ := whileB_spec (R := route_Person × Bool) (body := fun s166 : Int × route_Person × route_Person => if (decide (s166.1 < (((w0 :: a :: b :: c :: rest).map tb).length : Int))) = true then Option.bind (idx ((w0 :: a :: b :: c :: rest).map tb) (w64 (s166.1 + 1))) fun x182 => Option.bind (route_number x182) fun x186 => Option.bind (if (!x186.2) = true then (some true) else (Option.bind (idx ((w0 :: a :: b :: c :: rest).map tb) s166.1) fun x192 => some (strEq x192 (⟨#[]⟩ : ByteArray)))) fun s191 => if s191 = true then some (.rt (s166.2.1, false)) else Option.bind (idx ((w0 :: a :: b :: c :: rest).map tb) s166.1) fun x211 => Option.bind (appendL 5864062014805 s166.2.1.skills ([(⟨x211, x186.1⟩ : route_Skill)] : List route_Skill)) fun x220 => some (.nx (w64 (s166.1 + 2), (⟨s166.2.1.no, s166.2.1.capacity, s166.2.1.calendar, x220⟩ : route_Person), s166.2.2)) else some (.bk (s166.1, s166.2.1, s166.2.2)))
    (fun s => ∃ (j : Nat) (acc : List route_Skill), s = (((4 + j : Nat) : Int), ⟨A, B, C, acc⟩, z) ∧ j % 2 = 0 ∧ j ≤ rest.length ∧ prsR rest = (prsR (rest.drop j)).map (acc ++ ·) ∧ acc.length ≤ j) (fun s => rest.length + 4 - s.1.toNat)
    (fun o => (∃ q, prsR rest = none ∧ o = .rt (q, false)) ∨ ∃ sk q, prsR rest = some sk ∧ o = .fin (q, ⟨A, B, C, sk⟩, z)) (s := (4, ⟨A, B, C, []⟩, z)) ⟨0, [], rfl, rfl, Nat.zero_le _, by rw [List.drop_zero]; cases prsR rest <;> rfl, Nat.le_refl _⟩ (by
      rintro _ ⟨j, acc, rfl, j1, j2, j3, j4⟩
      simp only
      have hlen : (((w0 :: a :: b :: c :: rest).map tb).length : Int) = ((rest.length + 4 : Nat) : Int) := by simp; omega
      rw [hlen]
      by_cases hj : j < rest.length
      rotate_left
      · obtain rfl : j = rest.length := by omega
        rw [if_neg (by simp; omega)]
        rw [List.drop_length, prsR] at j3
        exact ⟨_, rfl, .inr ⟨acc, _, by rw [j3]; simp, rfl⟩⟩
      have hw1 : w64 (((4 + j : Nat) : Int) + 1) = ((4 + j + 1 : Nat) : Int) := by rw [w64_id (by omega) (by omega)]; rfl
      have hw2 : w64 (((4 + j : Nat) : Int) + 2) = ((4 + (j + 2) : Nat) : Int) := by rw [w64_id (by omega) (by omega)]; omega
      have hat : ∀ m (hm : m < rest.length), idx ((w0 :: a :: b :: c :: rest).map tb) ((4 + m : Nat) : Int) = some (tb rest[m]) := by
        intro m hm
        rw [idx_nat, List.getElem?_map, show 4 + m = m + 1 + 1 + 1 + 1 by omega]
        simp [hm]
      have hd : rest.drop j = rest[j] :: rest[j + 1]'(by omega) :: rest.drop (j + 2) := by rw [List.drop_eq_getElem_cons hj, List.drop_eq_getElem_cons (show j + 1 < rest.length by omega)]
      rw [if_pos (by simp; omega), hw1, hw2, show 4 + j + 1 = 4 + (j + 1) by omega, hat (j + 1) (by omega), Option.bind_some, code_num _ (hw _ (List.getElem_mem _)), Option.bind_some, hat j hj]
      rw [hd, prsR] at j3
      generalize rest[j] = n at hd j3
      generalize rest[j + 1]'(by omega) = r at hd j3
      have hnil : strEq (tb n) (⟨#[]⟩ : ByteArray) = decide (n = []) := tb_eq n []
      cases hcb : canB 9 r with
      | false =>
        rw [if_neg (by rw [hcb]; simp)] at j3
        simp only [Bool.false_eq_true, if_false, Bool.not_false, if_true, Option.bind_some]
        exact ⟨_, rfl, .inl ⟨_, by rw [j3]; rfl, rfl⟩⟩
      | true =>
        simp only [if_true, Bool.not_true, Bool.false_eq_true, if_false, Option.bind_some, hnil]
        by_cases hne : n = []
        · rw [if_neg (fun h => h.1 hne)] at j3
          rw [if_pos (by simpa using hne)]
          exact ⟨_, rfl, .inl ⟨_, by rw [j3]; rfl, rfl⟩⟩
        · rw [if_pos ⟨hne, hcb⟩] at j3
          rw [if_neg (by simpa using hne), appendL, if_pos (by simp; omega), Option.bind_some]
          refine ⟨_, rfl, ⟨j + 2, acc ++ [⟨tb n, numOf r⟩], rfl, by omega, by omega, ?_, by simp; omega⟩, by simp only [Int.toNat_natCast]; omega⟩
          rw [j3]
          cases prsR (rest.drop (j + 2)) with
          | none => rfl
          | some q => simp)
  exact ⟨o, ho, hq⟩
/-- the document's -/
theorem doc_skills (w0 a b c : List UInt8) (rest : List (List UInt8)) (hw : ∀ w ∈ rest, w.length ≤ 400000) (hn : rest.length ≤ 400001) (he : rest.length % 2 = 0) (A B C : Int) (z : route_Person) :
    ∃ o, whileB (R := route_Person × Bool) (fun s142 : Int × route_Person × route_Person => if (decide (s142.1 < (((w0 :: a :: b :: c :: rest).map tb).length : Int))) = true then Option.bind (idx ((w0 :: a :: b :: c :: rest).map tb) (w64 (s142.1 + 1))) fun x158 => Option.bind (portref2_number x158 9) fun x162 => Option.bind (idx ((w0 :: a :: b :: c :: rest).map tb) s142.1) fun x166 => if ((strEq x166 (⟨#[]⟩ : ByteArray)) || (!x162.2)) = true then some (.rt ((⟨0, 0, 0, ([] : (List route_Skill))⟩ : route_Person), false)) else Option.bind (appendL 5864062014805 s142.2.1.skills ([(⟨x166, x162.1⟩ : route_Skill)] : List route_Skill)) fun x187 => some (.nx (w64 (s142.1 + 2), (⟨s142.2.1.no, s142.2.1.capacity, s142.2.1.calendar, x187⟩ : route_Person), s142.2.2)) else some (.bk (s142.1, s142.2.1, s142.2.2))) (4, (⟨A, B, C, []⟩ : route_Person), z) = some o ∧ ((∃ q, prsR rest = none ∧ o = .rt (q, false)) ∨ ∃ sk q, prsR rest = some sk ∧ o = .fin (q, ⟨A, B, C, sk⟩, z)) := by
  obtain ⟨o, ho, hq⟩ := whileB_spec (R := route_Person × Bool) (body := fun s142 : Int × route_Person × route_Person => if (decide (s142.1 < (((w0 :: a :: b :: c :: rest).map tb).length : Int))) = true then Option.bind (idx ((w0 :: a :: b :: c :: rest).map tb) (w64 (s142.1 + 1))) fun x158 => Option.bind (portref2_number x158 9) fun x162 => Option.bind (idx ((w0 :: a :: b :: c :: rest).map tb) s142.1) fun x166 => if ((strEq x166 (⟨#[]⟩ : ByteArray)) || (!x162.2)) = true then some (.rt ((⟨0, 0, 0, ([] : (List route_Skill))⟩ : route_Person), false)) else Option.bind (appendL 5864062014805 s142.2.1.skills ([(⟨x166, x162.1⟩ : route_Skill)] : List route_Skill)) fun x187 => some (.nx (w64 (s142.1 + 2), (⟨s142.2.1.no, s142.2.1.capacity, s142.2.1.calendar, x187⟩ : route_Person), s142.2.2)) else some (.bk (s142.1, s142.2.1, s142.2.2)))
    (fun s => ∃ (j : Nat) (acc : List route_Skill), s = (((4 + j : Nat) : Int), ⟨A, B, C, acc⟩, z) ∧ j % 2 = 0 ∧ j ≤ rest.length ∧ prsR rest = (prsR (rest.drop j)).map (acc ++ ·) ∧ acc.length ≤ j) (fun s => rest.length + 4 - s.1.toNat)
    (fun o => (∃ q, prsR rest = none ∧ o = .rt (q, false)) ∨ ∃ sk q, prsR rest = some sk ∧ o = .fin (q, ⟨A, B, C, sk⟩, z)) (s := (4, ⟨A, B, C, []⟩, z)) ⟨0, [], rfl, rfl, Nat.zero_le _, by rw [List.drop_zero]; cases prsR rest <;> rfl, Nat.le_refl _⟩ (by
      rintro _ ⟨j, acc, rfl, j1, j2, j3, j4⟩
      simp only
      have hlen : (((w0 :: a :: b :: c :: rest).map tb).length : Int) = ((rest.length + 4 : Nat) : Int) := by simp; omega
      rw [hlen]
      by_cases hj : j < rest.length
      rotate_left
      · obtain rfl : j = rest.length := by omega
        rw [if_neg (by simp; omega)]
        rw [List.drop_length, prsR] at j3
        exact ⟨_, rfl, .inr ⟨acc, _, by rw [j3]; simp, rfl⟩⟩
      have hw1 : w64 (((4 + j : Nat) : Int) + 1) = ((4 + j + 1 : Nat) : Int) := by rw [w64_id (by omega) (by omega)]; rfl
      have hw2 : w64 (((4 + j : Nat) : Int) + 2) = ((4 + (j + 2) : Nat) : Int) := by rw [w64_id (by omega) (by omega)]; omega
      have hat : ∀ m (hm : m < rest.length), idx ((w0 :: a :: b :: c :: rest).map tb) ((4 + m : Nat) : Int) = some (tb rest[m]) := by
        intro m hm
        rw [idx_nat, List.getElem?_map, show 4 + m = m + 1 + 1 + 1 + 1 by omega]
        simp [hm]
      have hd : rest.drop j = rest[j] :: rest[j + 1]'(by omega) :: rest.drop (j + 2) := by rw [List.drop_eq_getElem_cons hj, List.drop_eq_getElem_cons (show j + 1 < rest.length by omega)]
      rw [if_pos (by simp; omega), hw1, hw2, show 4 + j + 1 = 4 + (j + 1) by omega, hat (j + 1) (by omega), Option.bind_some, doc_num _ (hw _ (List.getElem_mem _)), Option.bind_some, hat j hj, Option.bind_some]
      rw [hd, prsR] at j3
      generalize rest[j] = n at hd j3
      generalize rest[j + 1]'(by omega) = r at hd j3
      have hnil : strEq (tb n) (⟨#[]⟩ : ByteArray) = decide (n = []) := tb_eq n []
      rw [hnil]
      cases hcb : canB 9 r with
      | false =>
        rw [if_neg (by rw [hcb]; simp)] at j3
        rw [if_pos (by simp)]
        exact ⟨_, rfl, .inl ⟨_, by rw [j3]; rfl, rfl⟩⟩
      | true =>
        by_cases hne : n = []
        · rw [if_neg (fun h => h.1 hne)] at j3
          rw [if_pos (by simp [hne])]
          exact ⟨_, rfl, .inl ⟨_, by rw [j3]; rfl, rfl⟩⟩
        · rw [if_pos ⟨hne, hcb⟩] at j3
          rw [if_neg (by simp [hne]), appendL, if_pos (by simp; omega), Option.bind_some]
          refine ⟨_, rfl, ⟨j + 2, acc ++ [⟨tb n, numOf r⟩], by simp, by omega, by omega, ?_, by simp; omega⟩, by simp only [Int.toNat_natCast]; omega⟩
          rw [j3]
          cases prsR (rest.drop (j + 2)) with
          | none => rfl
          | some q => simp)
  exact ⟨o, ho, hq⟩
abbrev p00 : route_Person := ⟨0, 0, 0, []⟩
theorem tmod2 (n : Nat) : (Int.tmod (n : Int) 2 != 0) = decide (n % 2 ≠ 0) := by
  rw [Bool.eq_iff_iff, bne_iff_ne, decide_eq_true_eq, Int.tmod_eq_emod_of_nonneg (by omega)]
  omega
/-- a person's line -/
theorem person_code (l : List UInt8) (hl : l.length ≤ 400000) : ∃ p, route_readPerson (tb l) = some (p, (perW (spl 32 l)).isSome) ∧ ∀ q, perW (spl 32 l) = some q → p = q := by
  unfold route_readPerson
  have hs2 : strings_Split (tb l) (⟨#[32]⟩ : ByteArray) = _ := split_val 32 l (by omega)
  rw [hs2, Option.bind_some]
  have hlen := spl_len 32 l
  have hsm := spl_small 32 l
  generalize spl 32 l = ws at hlen hsm
  rw [List.length_map, tmod2]
  match ws, hlen, hsm with
  | [], hlen, hsm => exact ⟨p00, by simp [perW], fun q h => by cases h⟩
  | [_], hlen, hsm => exact ⟨p00, by simp [perW], fun q h => by cases h⟩
  | [_, _], hlen, hsm => exact ⟨p00, by simp [perW], fun q h => by cases h⟩
  | [_, _, _], hlen, hsm => exact ⟨p00, by simp [perW], fun q h => by cases h⟩
  | w0 :: a :: b :: c :: rest, hlen, hsm =>
    simp only [List.length_cons] at hlen
    have hi0 : idx ((w0 :: a :: b :: c :: rest).map tb) 0 = some (tb w0) := rfl
    have heq : strEq (tb w0) (⟨#[112, 101, 114, 115, 111, 110]⟩ : ByteArray) = decide (w0 = personW) := tb_eq w0 personW
    have hcond : (if ((decide (((w0 :: a :: b :: c :: rest).length : Int) < 4)) || decide ((w0 :: a :: b :: c :: rest).length % 2 ≠ 0)) = true then (some true) else (Option.bind (idx ((w0 :: a :: b :: c :: rest).map tb) 0) fun x21 => some (!(strEq x21 (⟨#[112, 101, 114, 115, 111, 110]⟩ : ByteArray))))) = some (decide (¬ (w0 = personW ∧ rest.length % 2 = 0))) := by
      have h4 : decide (((w0 :: a :: b :: c :: rest).length : Int) < 4) = false := by simp; omega
      rw [h4, Bool.false_or]
      by_cases he : rest.length % 2 = 0
      · rw [if_neg (by simp; omega), hi0, Option.bind_some, heq]
        congr 1
        rw [Bool.eq_iff_iff]
        simp [he]
      · rw [if_pos (by simp; omega)]
        simp [he]
    rw [hcond, Option.bind_some, perW]
    by_cases hc : w0 = personW ∧ rest.length % 2 = 0
    rotate_left
    · rw [decide_eq_true hc, if_pos rfl, if_neg fun h => hc ⟨h.1, h.2.1⟩]
      exact ⟨p00, rfl, fun q h => by cases h⟩
    rw [decide_eq_false (not_not_intro hc), if_neg (by simp)]
    have ha := code_num a (Nat.le_trans (hsm a (by simp)) hl)
    have hb := code_num b (Nat.le_trans (hsm b (by simp)) hl)
    have hcn := code_num c (Nat.le_trans (hsm c (by simp)) hl)
    have i1 : idx ((w0 :: a :: b :: c :: rest).map tb) (w64 (1 + ((0 : Nat) : Int))) = some (tb a) := rfl
    have i2 : idx ((w0 :: a :: b :: c :: rest).map tb) (w64 (1 + ((1 : Nat) : Int))) = some (tb b) := rfl
    have i3 : idx ((w0 :: a :: b :: c :: rest).map tb) (w64 (1 + ((2 : Nat) : Int))) = some (tb c) := rfl
    simp only [List.length_cons, List.length_nil, rangeB, Nat.zero_add, i1, i2, i3, Option.bind_some, ha, hb, hcn, show (((0 : Nat) : Int) = 0) = True by simp, show (((0 + 1 : Nat) : Int) = 0) = False by simp, show (((1 : Nat) : Int) = 0) = False by simp, show (((1 : Nat) : Int) = 1) = True by simp, show (((1 + 1 : Nat) : Int) = 0) = False by simp, show (((1 + 1 : Nat) : Int) = 1) = False by simp, decide_true, decide_false, if_true, Bool.false_eq_true, if_false]
    cases h1 : canB 9 a with
    | false =>
      refine ⟨p00, ?_, fun q h => ?_⟩
      · simp [h1, Lp.andThen]
      · simp [h1] at h
    | true =>
    cases h2 : canB 9 b with
    | false =>
      refine ⟨⟨numOf a, 0, 0, []⟩, ?_, fun q h => ?_⟩
      · simp [h1, h2, Lp.andThen]
      · simp [h2] at h
    | true =>
    have i3' : idx ((w0 :: a :: b :: c :: rest).map tb) (w64 (1 + ((1 + 1 : Nat) : Int))) = some (tb c) := rfl
    cases h3 : canB 9 c with
    | false =>
      refine ⟨⟨numOf a, numOf b, 0, []⟩, ?_, fun q h => ?_⟩
      · simp only [if_true, Bool.not_true, Bool.false_eq_true, if_false, i3', Option.bind_some, hcn, h3]
        simp [Lp.andThen]
      · simp [h3] at h
    | true =>
    simp only [if_true, Bool.not_true, Bool.false_eq_true, if_false, i3', Option.bind_some, hcn, h3, Lp.andThen_fin]
    rw [if_pos ⟨hc.1, hc.2, trivial, trivial, trivial⟩]
    obtain ⟨o, ho, hq⟩ := code_skills w0 a b c rest (fun w hw => Nat.le_trans (hsm w (by simp [hw])) hl) (by omega) hc.2 (numOf a) (numOf b) (numOf c) p00
    simp only [List.length_map, List.length_cons] at ho
    rw [ho, Option.bind_some]
    rcases hq with ⟨q, h5, rfl⟩ | ⟨sk, q, h5, rfl⟩
    · rw [h5]
      exact ⟨q, rfl, fun q' h => by cases h⟩
    · rw [h5]
      exact ⟨⟨numOf a, numOf b, numOf c, sk⟩, rfl, fun q' h => by cases h; rfl⟩
end Go.Proofs.YtpiihecmmdeofaaGreatDoor.M
