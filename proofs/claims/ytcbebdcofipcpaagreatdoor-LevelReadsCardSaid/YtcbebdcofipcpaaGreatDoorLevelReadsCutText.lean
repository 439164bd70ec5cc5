/-
  Texts as their bytes, cut at a byte; digits: plain part.
-/
import Derived.Test.YtcbebdcofipcpaaGreatDoorLevelReadsNumText
import Derived.Test.YtcbebdcofipcpaaGreatDoorLevelReadsNameBase0
import Derived.Lib.Index
namespace Go.Proofs.YtcbebdcofipcpaaGreatDoor.M
open Go Go.Pu Go.Lib
set_option linter.unusedSimpArgs false
set_option linter.unusedVariables false

/-- bytes as a text -/
def tb (l : List UInt8) : ByteArray := ⟨l.toArray⟩
theorem tb_size (l : List UInt8) : (tb l).size = l.length := by
  show l.toArray.size = _
  simp
theorem tb_list (l : List UInt8) : (tb l).data.toList = l := by
  show l.toArray.toList = l
  simp
theorem tb_of (s : ByteArray) : tb s.data.toList = s := by
  apply ByteArray.ext
  show s.data.toList.toArray = s.data
  simp
theorem tb_inj {a b : List UInt8} (h : tb a = tb b) : a = b := by rw [← tb_list a, ← tb_list b, h]
theorem tb_eq (a b : List UInt8) : strEq (tb a) (tb b) = decide (a = b) := by
  rw [Bool.eq_iff_iff, decide_eq_true_eq]
  unfold strEq
  rw [beq_iff_eq, ByteArray.toList_eq, ByteArray.toList_eq, tb_list, tb_list]
theorem tb_slice (l : List UInt8) (a b : Nat) (h1 : a ≤ b) (h2 : b ≤ l.length) : sliceS (tb l) (some (a : Int)) (some (b : Int)) = some (tb ((l.take b).drop a)) := by
  unfold sliceS bounds
  simp only [Option.getD_some]
  rw [if_pos (by rw [tb_size]; omega)]
  simp only [Option.map_some, Int.toNat_natCast]
  congr 1
  apply ByteArray.ext
  rw [ByteArray.data_extract]
  show l.toArray.extract a b = ((l.take b).drop a).toArray
  rw [List.extract_toArray, List.extract_eq_take_drop, List.drop_take]
theorem tb_sliceL (l : List UInt8) (a : Nat) (h1 : a ≤ l.length) : sliceS (tb l) (some (a : Int)) none = some (tb (l.drop a)) := by
  have := tb_slice l a l.length h1 (Nat.le_refl _)
  rw [List.take_length] at this
  rw [← this]
  unfold sliceS bounds
  simp only [Option.getD_some, Option.getD_none, tb_size]
theorem tb_sliceH (l : List UInt8) (b : Nat) (h1 : b ≤ l.length) : sliceS (tb l) none (some (b : Int)) = some (tb (l.take b)) := by
  have := tb_slice l 0 b (Nat.zero_le _) h1
  rw [List.drop_zero] at this
  rw [← this]
  unfold sliceS bounds
  simp only [Option.getD_some, Option.getD_none, tb_size]
  rfl
theorem tb_idx (l : List UInt8) (k : Nat) : idxS (tb l) (k : Int) = l[k]? := by
  unfold idxS
  rw [if_pos (by omega), Int.toNat_natCast, bytes_at, tb_list]
theorem tb_cat (a b : List UInt8) (h : a.length + b.length ≤ 9223372036854775807) : catS (tb a) (tb b) = some (tb (a ++ b)) := by
  unfold catS
  rw [if_neg]
  · congr 1
  · rw [tb_size, tb_size, show IntKind.i64.max = 9223372036854775807 by decide]
    omega
/-- ahead of the first c, and behind it -/
def cutA (c : UInt8) : List UInt8 → List UInt8
  | [] => []
  | b :: l => if b = c then [] else b :: cutA c l
def cutB (c : UInt8) : List UInt8 → List UInt8
  | [] => []
  | b :: l => if b = c then l else cutB c l
theorem cut_join (c : UInt8) : ∀ (l : List UInt8), c ∈ l → l = cutA c l ++ c :: cutB c l
  | [], h => by cases h
  | b :: l, h => by
    rw [cutA, cutB]
    by_cases hb : b = c
    · rw [if_pos hb, if_pos hb, hb]; rfl
    · rw [if_neg hb, if_neg hb]
      rcases List.mem_cons.1 h with h | h
      · exact absurd h.symm hb
      · rw [List.cons_append, ← cut_join c l h]
theorem cutA_not (c : UInt8) : ∀ (l : List UInt8), c ∉ cutA c l
  | [] => by simp [cutA]
  | b :: l => by
    rw [cutA]
    by_cases hb : b = c
    · rw [if_pos hb]; simp
    · rw [if_neg hb]
      intro h
      rcases List.mem_cons.1 h with h | h
      · exact hb h.symm
      · exact cutA_not c l h
theorem cut_none (c : UInt8) : ∀ (l : List UInt8), c ∉ l → cutA c l = l ∧ cutB c l = []
  | [], _ => ⟨rfl, rfl⟩
  | b :: l, h => by
    have hb : ¬ b = c := fun e => h (by rw [e]; exact List.mem_cons_self)
    obtain ⟨h1, h2⟩ := cut_none c l (fun e => h (List.mem_cons_of_mem _ e))
    rw [cutA, cutB, if_neg hb, if_neg hb, h1, h2]
    exact ⟨rfl, rfl⟩
theorem cut_at (c : UInt8) (x y : List UInt8) (h : c ∉ x) : cutA c (x ++ c :: y) = x ∧ cutB c (x ++ c :: y) = y := by
  induction x with
  | nil => rw [List.nil_append, cutA, cutB, if_pos rfl, if_pos rfl]; exact ⟨rfl, rfl⟩
  | cons b x ih =>
    have hb : ¬ b = c := fun e => h (by rw [e]; exact List.mem_cons_self)
    obtain ⟨h1, h2⟩ := ih (fun e => h (List.mem_cons_of_mem _ e))
    rw [List.cons_append, cutA, cutB, if_neg hb, if_neg hb, h1, h2]
    exact ⟨rfl, rfl⟩
theorem ib_cut (c : UInt8) : ∀ (l : List UInt8), Go.Lib.indexByte l c = if c ∈ l then ((cutA c l).length : Int) else -1
  | [] => rfl
  | b :: l => by
    have ih := ib_cut c l
    unfold Go.Lib.indexByte
    rw [cutA]
    by_cases hb : b = c
    · subst hb
      simp
    · have : (b == c) = false := by simpa using hb
      rw [this, ih]
      by_cases hm : c ∈ l
      · rw [if_pos hm, if_neg (by decide), if_neg hb, if_pos (List.mem_cons_of_mem _ hm)]
        have e : ((((cutA c l).length : Int)) == -1) = false := by rw [beq_eq_false_iff_ne]; omega
        rw [e]
        simp
      · rw [if_neg hm]
        simp [hm, hb, Ne.symm hb]
theorem cutA_len (c : UInt8) (l : List UInt8) : (cutA c l).length ≤ l.length := by
  by_cases h : c ∈ l
  · have := congrArg List.length (cut_join c l h)
    rw [List.length_append] at this
    omega
  · rw [(cut_none c l h).1]
    omega
theorem cutB_len (c : UInt8) (l : List UInt8) : (cutB c l).length ≤ l.length := by
  by_cases h : c ∈ l
  · have := congrArg List.length (cut_join c l h)
    rw [List.length_append, List.length_cons] at this
    omega
  · rw [(cut_none c l h).2]
    exact Nat.zero_le _
theorem trimP_val (l : List UInt8) : strings_TrimPrefix (tb l) (⟨#[45]⟩ : ByteArray) = some (tb (bare l)) := by
  unfold strings_TrimPrefix internal_stringslite_TrimPrefix internal_stringslite_HasPrefix
  have h1 : (⟨#[45]⟩ : ByteArray) = tb [45] := rfl
  rw [h1, tb_size, tb_size]
  cases l with
  | nil => rfl
  | cons b r =>
    rw [if_pos (by simp; omega), tb_sliceH _ _ (by simp), Option.bind_some, tb_eq]
    simp only [Option.bind_some]
    by_cases hb : b = 45
    · subst hb
      rw [if_pos (by simp), tb_sliceL _ _ (by simp)]
      rfl
    · rw [if_neg (by simpa using hb), bare_pos (by simpa using hb)]
      rfl
/-- digits without a 0 before others -/
def digB (k : Nat) (l : List UInt8) : Bool := !(decide (l = [])) && (decide (l.length ≤ k) && (l.all dig && (decide (l.length = 1) || decide (l.head? ≠ some 48))))
theorem dig_set (b : UInt8) : dig b = (([48, 49, 50, 51, 52, 53, 54, 55, 56, 57] : List UInt8).contains b) := by
  have h : ((List.range 256).all fun i => dig (UInt8.ofNat i) == (([48, 49, 50, 51, 52, 53, 54, 55, 56, 57] : List UInt8).contains (UInt8.ofNat i))) = true := by kernel_rfl
  have h := List.all_eq_true.1 h b.toNat (List.mem_range.2 b.toNat_lt)
  rw [UInt8.ofNat_toNat] at h
  simpa using h
theorem trim_digits (l : List UInt8) (hl : l.length ≤ 9223372036854775807) : ∃ t, strings_Trim (tb l) (⟨#[48, 49, 50, 51, 52, 53, 54, 55, 56, 57]⟩ : ByteArray) = some t ∧ strEq t (⟨#[]⟩ : ByteArray) = l.all dig := by
  unfold strings_Trim
  rw [if_pos ⟨by rw [tb_size]; exact hl, by decide, by decide⟩]
  refine ⟨_, rfl, ?_⟩
  rw [strEq_nil]
  show ((Go.Lib.trimS (tb l).data.toList [48, 49, 50, 51, 52, 53, 54, 55, 56, 57]).toArray.toList == []) = _
  rw [tb_list, Bool.eq_iff_iff, beq_iff_eq, List.all_eq_true]
  show Go.Lib.trimS l _ = [] ↔ _
  rw [trimS_nil]
  exact ⟨fun h b hb => by rw [dig_set]; exact h b hb, fun h b hb => by rw [← dig_set]; exact h b hb⟩
end Go.Proofs.YtcbebdcofipcpaaGreatDoor.M
