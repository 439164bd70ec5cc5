import Derived.Test.YtfbiebageicnaaaGreatDoorLevelClocksM
import Derived.Test.YtfbiebageicnaaaGreatDoorPl
import Derived.Lib.SlTrimSet
import Derived.KernelRfl
namespace Go.Proofs.YtfbiebageicnaaaGreatDoor.M
open Go Go.Pu
set_option linter.unusedSimpArgs false
set_option linter.unusedVariables false
theorem bytes_at (s : ByteArray) (k : Nat) : s[k]? = s.data.toList[k]? := by
 by_cases h : k < s.size
 ·rw [getElem?_pos s k h]
  have h2 : k < s.data.toList.length := h
  rw [List.getElem?_eq_getElem h2]
  rfl
 ·rw [getElem?_neg s k h, List.getElem?_eq_none (by simpa using h)]
theorem idxS_nat (s : ByteArray) (k : Nat) : idxS s (k : Int) = s.data.toList[k]? := by
 unfold idxS
 rw [if_pos (by omega), Int.toNat_natCast, bytes_at]
theorem strEq_nil (x : ByteArray) : strEq x (⟨#[]⟩ : ByteArray) = (x.data.toList == []) := by
 unfold strEq
 rw [ByteArray.toList_eq, ByteArray.toList_eq]
theorem dropWhile_nil {α : Type} (p : α → Bool) : ∀ l : List α, l.dropWhile p = [] ↔ ∀ x ∈ l, p x = true
 | [] => by simp
 | x :: l => by
  by_cases h : p x = true
  ·simp [List.dropWhile, h, dropWhile_nil p l]
  ·simp [List.dropWhile, h]
theorem trimS_nil (l cs : List UInt8) : Go.Lib.trimS l cs = [] ↔ ∀ x ∈ l, cs.contains x = true := by
 unfold Go.Lib.trimS Go.Lib.trimLeftS Go.Lib.trimRightS
 rw [dropWhile_nil]
 constructor
 ·intro h x hx
  by_cases hc : cs.contains x = true
  ·exact hc
  ·have hlr : x ∈ l.reverse := by simpa using hx
   have key : ∀ m : List UInt8, x ∈ m → x ∈ m.dropWhile (cs.contains ·) := by
    intro m
    induction m with
    | nil => intro h; cases h
    | cons y m ih =>
     intro hm
     by_cases hy : cs.contains y = true
     ·rw [List.dropWhile_cons_of_pos hy]
      rcases List.mem_cons.1 hm with rfl | hm
      ·exact absurd hy hc
      ·exact ih hm
     ·rw [List.dropWhile_cons_of_neg hy]
      exact hm
   exact h x (by simpa using key l.reverse hlr)
 ·intro h x hx
  have : x ∈ l := by
   have h1 : x ∈ l.reverse.dropWhile (cs.contains ·) := by simpa using hx
   have := (List.dropWhile_sublist (cs.contains ·)).subset h1
   simpa using this
  exact h x this
def okB (b : UInt8) : Bool := !(((!((decide ((97 : Int) ≤ (b.toNat : Int))) && (decide ((b.toNat : Int) ≤ 122)))) && (!((decide ((48 : Int) ≤ (b.toNat : Int))) && (decide ((b.toNat : Int) ≤ 57))))) && ((b.toNat : Int) != 95))
def nameSet : List UInt8 := [97, 98, 99, 100, 101, 102, 103, 104, 105, 106, 107, 108, 109, 110, 111, 112, 113, 114, 115, 116, 117, 118, 119, 120, 121, 122, 48, 49, 50, 51, 52, 53, 54, 55, 56, 57, 95]
theorem okB_all : ((List.range 256).all fun i => okB (UInt8.ofNat i) == nameSet.contains (UInt8.ofNat i)) = true := by kernel_rfl
theorem okB_set (b : UInt8) : okB b = nameSet.contains b := by
 have h := List.all_eq_true.1 okB_all b.toNat (List.mem_range.2 b.toNat_lt)
 rw [UInt8.ofNat_toNat] at h
 simpa using h
theorem name_val (s : ByteArray) (hs : s.size ≤ 9223372036854775807) : level_name s = some (s.data.toList.all okB && ((!(strEq s (⟨#[]⟩ : ByteArray))) && (decide ((s.size : Int) ≤ 20)))) := by
 unfold level_name
 have hsz : s.data.toList.length = s.size := rfl
 obtain ⟨x, hx, hq⟩ := whileB_spec (R := Bool) (body := fun (s8 : Int) => if (decide (s8 < (s.size : Int))) = true then Option.bind (idxS s s8) fun x18 => if (((!((decide ((97 : Int) ≤ (x18.toNat : Int))) && (decide ((x18.toNat : Int) ≤ 122)))) && (!((decide ((48 : Int) ≤ (x18.toNat : Int))) && (decide ((x18.toNat : Int) ≤ 57))))) && ((x18.toNat : Int) != 95)) = true then some (.rt false) else some (.nx (w64 (s8 + 1))) else some (.bk s8))
  (fun i => ∃ k : Nat, i = (k : Int) ∧ k ≤ s.size ∧ ∀ j b, j < k → s.data.toList[j]? = some b → okB b = true) (fun i => s.size - i.toNat)
  (fun x => (x = .rt false ∧ s.data.toList.all okB = false) ∨ (∃ t, x = .fin t ∧ s.data.toList.all okB = true)) (s := 0)
  ⟨0, rfl, Nat.zero_le _, fun j b h => absurd h (Nat.not_lt_zero _)⟩
  (by
   rintro _ ⟨k, rfl, hk, hI⟩
   by_cases hlt : k < s.size
   ·have e : decide ((k : Int) < (s.size : Int)) = true := decide_eq_true (by omega)
    have hb : s.data.toList[k]? = some (s.data.toList[k]'(by omega)) := List.getElem?_eq_getElem (by omega)
    generalize s.data.toList[k]'(by omega) = b at hb
    have hw : w64 ((k : Int) + 1) = ((k + 1 : Nat) : Int) := by rw [w64_id (by omega) (by omega)]; omega
    simp only [e, if_true, idxS_nat, hb, Option.bind_some, hw]
    by_cases hok : okB b = true
    ·have e2 : (((!((decide ((97 : Int) ≤ (b.toNat : Int))) && (decide ((b.toNat : Int) ≤ 122)))) && (!((decide ((48 : Int) ≤ (b.toNat : Int))) && (decide ((b.toNat : Int) ≤ 57))))) && ((b.toNat : Int) != 95)) = false := by
      unfold okB at hok
      rw [Bool.not_eq_true'] at hok
      exact hok
     rw [e2]
     refine ⟨_, rfl, ⟨k + 1, rfl, by omega, fun j c hj hc => ?_⟩, by simp only [Int.toNat_natCast]; omega⟩
     rcases Nat.lt_or_eq_of_le (Nat.le_of_lt_succ hj) with h | rfl
     ·exact hI j c h hc
     ·rw [hb] at hc; cases hc; exact hok
    ·have e2 : (((!((decide ((97 : Int) ≤ (b.toNat : Int))) && (decide ((b.toNat : Int) ≤ 122)))) && (!((decide ((48 : Int) ≤ (b.toNat : Int))) && (decide ((b.toNat : Int) ≤ 57))))) && ((b.toNat : Int) != 95)) = true := by
      rw [Bool.not_eq_true] at hok
      unfold okB at hok
      rw [Bool.not_eq_false'] at hok
      exact hok
     rw [e2]
     refine ⟨_, rfl, .inl ⟨rfl, ?_⟩⟩
     rw [List.all_eq_false]
     exact ⟨b, List.mem_of_getElem? hb, hok⟩
   ·have e : decide ((k : Int) < (s.size : Int)) = false := decide_eq_false (by omega)
    simp only [e, Bool.false_eq_true, if_false]
    refine ⟨_, rfl, .inr ⟨_, rfl, ?_⟩⟩
    rw [List.all_eq_true]
    intro b hb
    obtain ⟨j, hj, rfl⟩ := List.mem_iff_getElem.1 hb
    exact hI j _ (by omega) (List.getElem?_eq_getElem hj))
 rw [hx]
 rcases hq with ⟨rfl, h⟩ | ⟨t, rfl, h⟩
 ·rw [h]
  rfl
 ·rw [h]
  simp only [Option.bind_some, Lp.andThen_fin, Bool.true_and]
theorem isName_val (s : ByteArray) : portref2_IsName s = some (s.data.toList.all okB && ((!(strEq s (⟨#[]⟩ : ByteArray))) && (decide ((s.size : Int) ≤ 20)))) := by
 unfold portref2_IsName
 have hnil : strEq s (⟨#[]⟩ : ByteArray) = decide ((s.size : Int) = 0) := by
  rw [strEq_nil, Bool.eq_iff_iff, beq_iff_eq, decide_eq_true_eq]
  have hsz : s.data.toList.length = s.size := rfl
  constructor
  ·intro h
   rw [h] at hsz
   simp at hsz
   omega
  ·intro h
   exact List.eq_nil_of_length_eq_zero (by omega)
 rw [hnil]
 by_cases h1 : (1 : Int) ≤ (s.size : Int)
 ·by_cases h2 : (s.size : Int) ≤ 20
  ·simp only [decide_eq_true h1, decide_eq_true h2, if_true]
   have ht : strings_Trim s (⟨#[97, 98, 99, 100, 101, 102, 103, 104, 105, 106, 107, 108, 109, 110, 111, 112, 113, 114, 115, 116, 117, 118, 119, 120, 121, 122, 48, 49, 50, 51, 52, 53, 54, 55, 56, 57, 95]⟩ : ByteArray) = some ⟨(Go.Lib.trimS s.data.toList nameSet).toArray⟩ := by
    unfold strings_Trim
    rw [if_pos ⟨by omega, by decide, by decide⟩]
    rfl
   rw [ht]
   simp only [Option.bind_some, strEq_nil]
   congr 1
   rw [decide_eq_false (by omega), Bool.not_false, Bool.true_and, Bool.and_true, Bool.eq_iff_iff, beq_iff_eq, trimS_nil, List.all_eq_true]
   exact ⟨fun h b hb => by rw [okB_set]; exact h b hb, fun h b hb => by rw [← okB_set]; exact h b hb⟩
  ·simp only [decide_eq_true h1, decide_eq_false h2, if_true, Bool.false_eq_true, if_false, Option.bind_some, Bool.and_false]
 ·have h0 : (s.size : Int) = 0 := by omega
  simp only [decide_eq_false h1, Bool.false_eq_true, if_false, Option.bind_some, decide_eq_true h0, Bool.not_true, Bool.false_and, Bool.and_false]
end Go.Proofs.YtfbiebageicnaaaGreatDoor.M
