/-
  Templates: the reader's texts: plain part.
-/
import Derived.Test.YtfdhiclmjfkflaaDoorTemplateFillsTplBase
namespace Go.Proofs.YtfdhiclmjfkflaaDoor.M
open Go Go.Pu
set_option linter.unusedSimpArgs false
set_option linter.unusedVariables false

theorem t_slice (s : ByteArray) (a b : Nat) (h1 : a ≤ b) (h2 : b ≤ s.size) : sliceS s (some (a : Int)) (some (b : Int)) = some (s.extract a b) := by
  unfold sliceS bounds
  simp only [Option.getD_some]
  rw [if_pos (by omega)]
  simp
theorem t_size (s : ByteArray) (a b : Nat) (h1 : a ≤ b) (h2 : b ≤ s.size) : (s.extract a b).size = b - a := by
  rw [ByteArray.size_extract]; omega
theorem t_len (s : ByteArray) : s.data.toList.length = s.size := by
  show s.data.toList.length = s.data.size
  simp
theorem ib_mem (c : UInt8) : ∀ l : List UInt8, -1 ≤ indexByteL l c ∧ (indexByteL l c < 0 ↔ c ∉ l)
  | [] => ⟨by simp [indexByteL], by simp [indexByteL]⟩
  | b :: l => by
    obtain ⟨h1, h2⟩ := ib_mem c l
    rw [indexByteL]
    by_cases hb : b = c
    · subst hb; simp
    · rw [if_neg (by simpa using hb)]
      by_cases h3 : indexByteL l c < 0
      · have : indexByteL l c = -1 := by omega
        rw [if_pos (by simp [this])]
        exact ⟨by decide, by simp [h2.1 h3, Ne.symm hb]⟩
      · rw [if_neg (by simp; omega)]
        have hm : c ∈ l := Classical.byContradiction fun h => h3 (h2.2 h)
        exact ⟨by omega, by simp [hm]; omega⟩
theorem ib_val (t : List UInt8) (c : UInt8) : decide (strings_IndexByte ⟨t.toArray⟩ (c.toNat : Int) < 0) = !(t.contains c) := by
  unfold strings_IndexByte internal_stringslite_IndexByte indexByteS
  rw [ByteArray.toList_eq]
  have e : ((c.toNat : Int).toNat.toUInt8) = c := by rw [Int.toNat_natCast]; exact UInt8.ofNat_toNat
  rw [e, Bool.eq_iff_iff, decide_eq_true_eq]
  simp [(ib_mem c t).2]
/-- bytes as a text -/
def toB (l : List UInt8) : ByteArray := ⟨l.toArray⟩
theorem toB_size (l : List UInt8) : (toB l).size = l.length := by
  show l.toArray.size = _
  simp
theorem toB_app (l m : List UInt8) : toB l ++ toB m = toB (l ++ m) := by
  apply ByteArray.ext
  rw [ByteArray.data_append]
  show l.toArray ++ m.toArray = (l ++ m).toArray
  simp
theorem toB_list (l : List UInt8) : (toB l).data.toList = l := by
  show l.toArray.toList = l
  simp
theorem toB_of (s : ByteArray) : toB s.data.toList = s := by
  apply ByteArray.ext
  show s.data.toList.toArray = s.data
  simp
theorem t_one (s : ByteArray) (i : Nat) (h : i < s.data.toList.length) : s.extract i (i + 1) = toB [s.data.toList[i]] := by
  apply ByteArray.ext
  rw [ByteArray.data_extract]
  have h' : i < s.data.size := by simpa using h
  apply Array.ext_getElem?
  intro j
  rcases Nat.lt_or_ge j 1 with hj | hj
  · obtain rfl : j = 0 := by omega
    rw [Array.getElem?_extract_of_lt (by omega)]
    simp [toB]
  · rw [Array.getElem?_eq_none (by rw [Array.size_extract]; omega), Array.getElem?_eq_none (by simp [toB]; omega)]
/-- what the reader does at a backslash: the byte, whether it is right, the next place -/
def esc (b : List UInt8) (ok : List UInt8) (i : Nat) : List UInt8 × Bool × Nat := match b[i + 1]? with
  | some d => if ok.contains d then ([d], true, i + 2) else ([], false, i + 1)
  | none => ([], false, i + 1)
theorem escaped_val (s : ByteArray) (hs : s.size ≤ 20000) (ok : List UInt8) (i : Nat) (hi : i < s.size) : know_templateReader_escaped ⟨s, (i : Int), false⟩ ⟨ok.toArray⟩ = some (toB (esc s.data.toList ok i).1, ⟨s, ((esc s.data.toList ok i).2.2 : Int), !(esc s.data.toList ok i).2.1⟩) ∧ (esc s.data.toList ok i).1.length ≤ 1 ∧ i < (esc s.data.toList ok i).2.2 ∧ (esc s.data.toList ok i).2.2 ≤ s.size := by
  unfold know_templateReader_escaped esc
  have hw : w64 ((i : Int) + 1) = ((i + 1 : Nat) : Int) := by rw [w64_id (by omega) (by omega)]; rfl
  have hw2 : w64 (((i + 1 : Nat) : Int) + 1) = ((i + 2 : Nat) : Int) := by rw [w64_id (by omega) (by omega)]; rfl
  have hw3 : w64 (((i + 2 : Nat) : Int) - 1) = ((i + 1 : Nat) : Int) := by rw [w64_id (by omega) (by omega)]; omega
  simp only [hw, hw2, hw3]
  by_cases h1 : i + 1 = s.size
  · have hn : s.data.toList[i + 1]? = none := List.getElem?_eq_none (by rw [t_len]; omega)
    rw [if_pos (by rw [h1]; simp), Option.bind_some, if_pos rfl, hn]
    exact ⟨rfl, Nat.zero_le _, by simp only; omega, by simp only; omega⟩
  · have hlt : i + 1 < s.data.toList.length := by rw [t_len]; omega
    rw [if_neg (show ¬ ((((i + 1 : Nat) : Int) == (s.size : Int)) = true) by simp; omega), t_idxS, List.getElem?_eq_getElem hlt, Option.bind_some, ib_val, Option.bind_some]
    by_cases h2 : ok.contains s.data.toList[i + 1] = true
    · rw [if_neg (by rw [h2]; decide)]
      simp only [h2, if_true]
      rw [t_slice s (i + 1) (i + 2) (by omega) (by omega), t_one s (i + 1) hlt]
      exact ⟨rfl, Nat.le_refl 1, by omega, by omega⟩
    · rw [if_pos (by simpa using h2)]
      simp only [h2, if_false]
      exact ⟨rfl, Nat.zero_le _, by simp, by simp only [Bool.false_eq_true, if_false]; omega⟩
end Go.Proofs.YtfdhiclmjfkflaaDoor.M
