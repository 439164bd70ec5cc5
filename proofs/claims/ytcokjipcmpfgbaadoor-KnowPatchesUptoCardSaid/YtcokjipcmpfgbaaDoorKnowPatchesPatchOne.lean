/-
  The lines of a body as both sides take them; lines that may be added; endings: plain part.
-/
import Derived.Test.YtcokjipcmpfgbaaDoorKnowPatchesPatchBase
namespace Go.Proofs.YtcokjipcmpfgbaaDoor.M
open Go Go.Pu
set_option linter.unusedSimpArgs false
set_option linter.unusedVariables false

abbrev dat (s : ByteArray) : List UInt8 := s.data.toList
theorem size_dat (s : ByteArray) : s.size = (dat s).length := by
  show s.data.size = s.data.toList.length
  simp
theorem strEq_nil (x : ByteArray) : strEq x (⟨#[]⟩ : ByteArray) = (dat x == []) := by
  unfold strEq
  rw [ByteArray.toList_eq, ByteArray.toList_eq]
theorem sliceL_take {α : Type} (l : List α) (k : Nat) (h : k ≤ l.length) : sliceL l none (some (k : Int)) = some (l.take k) := by
  unfold sliceL bounds
  simp
  omega
theorem cutL_len : ∀ l, (cutL l).length ≤ l.length + 1
  | [] => by simp [cutL]
  | b :: l => by
    have ih := cutL_len l
    unfold cutL
    split
    · simp; omega
    · cases h : cutL l with
      | nil => simp
      | cons x r => rw [h] at ih; simp at ih ⊢; omega
theorem after_val (s : ByteArray) (h : s.size ≤ 4000000000) : ∃ l, strings_SplitAfter s (⟨#[10]⟩ : ByteArray) = some l ∧ l.map dat = cutL (dat s) := by
  unfold strings_SplitAfter strings_genSplit
  have z : (⟨#[10]⟩ : ByteArray).size = 1 := rfl
  rw [if_pos ⟨by omega, by omega, by omega, by omega, rfl⟩]
  refine ⟨_, rfl, ?_⟩
  rw [Go.Lib.splitB_data]
  have hc := Go.Lib.countB_le (⟨#[10]⟩ : ByteArray) (by decide) s.size s (Nat.le_refl _)
  rw [show min (Go.Lib.countB s (⟨#[10]⟩ : ByteArray) + 1) (s.size + 1) - 1 = Go.Lib.countB s (⟨#[10]⟩ : ByteArray) by omega]
  exact splitK_cut _ _ (Nat.le_refl _)
theorem lines_val (s : ByteArray) (h : s.size ≤ 4000000000) : ∃ l, know_lines s = some l ∧ l.map dat = linesL (dat s) := by
  obtain ⟨l, h1, h2⟩ := after_val s h
  have hne : l ≠ [] := fun e => cutL_ne (dat s) (by rw [← h2, e]; rfl)
  have hl : 0 < l.length := List.length_pos_iff.2 hne
  have hlen : l.length ≤ s.size + 1 := by
    have := cutL_len (dat s)
    rw [← h2, List.length_map, ← size_dat] at this
    exact this
  have hw : w64 ((l.length : Int) - 1) = ((l.length - 1 : Nat) : Int) := by rw [w64_id (by omega) (by omega)]; omega
  have hx : l[l.length - 1]? = some l[l.length - 1] := List.getElem?_eq_getElem (by omega)
  have hg : (cutL (dat s)).getLast? = some (dat l[l.length - 1]) := by
    rw [← h2, List.getLast?_map, List.getLast?_eq_getElem?, hx]
    rfl
  unfold know_lines
  simp only [h1, Option.bind_some, hw, idx_nat, hx, sliceL_take l (l.length - 1) (by omega), strEq_nil]
  unfold linesL
  rw [hg]
  by_cases hd : dat l[l.length - 1] = []
  · rw [if_pos (by rw [hd]; rfl), if_pos (by rw [hd])]
    refine ⟨_, rfl, ?_⟩
    rw [← h2, List.dropLast_eq_take, List.map_take, List.length_map]
  · rw [if_neg (by simpa using hd), if_neg (by simpa using hd)]
    exact ⟨_, rfl, h2⟩
theorem lines_same (s : ByteArray) : portref2_bodyLines s = know_lines s := rfl
theorem fault_same (s : ByteArray) : portref2_bodyFault s = know_checkBody s := rfl

/-! one line -/
def lineB (l : List UInt8) : Bool := l != [] && !(l.dropLast.contains 10)
theorem lineB_iff (l : List UInt8) : lineB l = true ↔ isLine l := by
  rcases List.eq_nil_or_concat l with rfl | ⟨t, b, rfl⟩
  · simp [lineB, isLine, noFeed]
  · have e : lineB (t ++ [b]) = !(t.contains 10) := by simp [lineB]
    rw [List.concat_eq_append, e]
    constructor
    · intro h
      have h : ∀ c ∈ t, c ≠ 10 := by
        intro c hc hcc
        subst hcc
        simp [hc] at h
      by_cases hb : b = 10
      · exact .inl ⟨t, h, by rw [hb]⟩
      · refine .inr ⟨?_, by simp⟩
        intro c hc
        rcases List.mem_append.1 hc with hc | hc
        · exact h c hc
        · simp at hc; rw [hc]; exact hb
    · intro h
      have hn : ∀ c ∈ t, c ≠ 10 := by
        rcases h with ⟨u, hu, he⟩ | ⟨hu, _⟩
        · obtain ⟨rfl, _⟩ := List.append_inj' he rfl
          exact hu
        · exact fun c hc => hu c (List.mem_append.2 (.inl hc))
      simp
      exact fun hc => hn 10 hc rfl
theorem ibl (l : List UInt8) (c : UInt8) : indexByteL l c = Go.Lib.indexByte l c := by
  induction l with
  | nil => rfl
  | cons b l ih => rw [indexByteL, Go.Lib.indexByte, ih]
theorem ix_contains (c : UInt8) : ∀ l : List UInt8, decide (0 ≤ Go.Lib.indexByte l c) = l.contains c
  | [] => rfl
  | b :: l => by
    have ih := ix_contains c l
    have hge := Go.Lib.indexByte_ge l c
    rw [Go.Lib.indexByte, List.contains_cons]
    by_cases hb : b = c
    · subst hb; simp
    · have h1 : (b == c) = false := by simpa using hb
      have h2 : (c == b) = false := by simpa using Ne.symm hb
      simp only [h1, h2, Bool.false_or, Bool.false_eq_true, if_false, ← ih]
      by_cases hm : Go.Lib.indexByte l c = -1
      · rw [hm]; rfl
      · rw [if_neg (by simpa using hm), Bool.eq_iff_iff, decide_eq_true_eq, decide_eq_true_eq]
        omega
theorem ix_test (c : UInt8) : ∀ l : List UInt8, l ≠ [] → (decide (0 ≤ Go.Lib.indexByte l c) && decide (Go.Lib.indexByte l c < (l.length : Int) - 1)) = l.dropLast.contains c
  | [], h => absurd rfl h
  | [b], _ => by
    simp only [Go.Lib.indexByte, List.dropLast_singleton, List.contains_nil, List.length_singleton]
    split <;> rfl
  | b :: d :: r, _ => by
    have ih := ix_test c (d :: r) (by simp)
    have hge := Go.Lib.indexByte_ge (d :: r) c
    rw [List.dropLast_cons_of_ne_nil (by simp : d :: r ≠ []), List.contains_cons, ← ih, Go.Lib.indexByte]
    generalize Go.Lib.indexByte (d :: r) c = z at hge ⊢
    by_cases hb : b = c
    · subst hb
      simp
    · have h1 : (b == c) = false := by simpa using hb
      have h2 : (c == b) = false := by simpa using Ne.symm hb
      simp only [h1, h2, Bool.false_or, Bool.false_eq_true, if_false]
      by_cases hm : z = -1
      · subst hm; rfl
      · rw [if_neg (by simpa using hm), Bool.eq_iff_iff]
        simp only [Bool.and_eq_true, decide_eq_true_eq, List.length_cons]
        omega
theorem know_test (x : ByteArray) (hx : x.size ≤ 4000000000) : ((strEq x (⟨#[]⟩ : ByteArray)) || ((decide ((0 : Int) ≤ (strings_IndexByte x 10))) && (decide ((strings_IndexByte x 10) < (w64 ((x.size : Int) - 1)))))) = !(lineB (dat x)) := by
  have e : strings_IndexByte x 10 = Go.Lib.indexByte (dat x) 10 := by
    unfold strings_IndexByte internal_stringslite_IndexByte indexByteS
    rw [ByteArray.toList_eq, ibl]
    rfl
  rw [e, strEq_nil, w64_id (by omega) (by omega), size_dat]
  by_cases hn : dat x = []
  · rw [hn]; rfl
  · rw [ix_test 10 _ hn]
    have h1 : (dat x == []) = false := by simpa using hn
    have h2 : (dat x != []) = true := by simpa using hn
    rw [h1]
    unfold lineB
    rw [h2]
    simp
theorem dat_extract (x : ByteArray) (a b : Nat) : dat (x.extract a b) = ((dat x).take b).drop a := by
  show (x.extract a b).data.toList = _
  rw [ByteArray.data_extract, Array.toList_extract, List.extract_eq_take_drop]
  rw [List.take_drop]
  by_cases h : a ≤ b
  · rw [show a + (b - a) = b by omega]
  · rw [show a + (b - a) = a by omega]
    have h1 : ((dat x).take a).drop a = [] := List.drop_eq_nil_of_le (by simp; omega)
    have h2 : ((dat x).take b).drop a = [] := List.drop_eq_nil_of_le (by simp; omega)
    rw [h1, h2]
def feedB (l : List UInt8) : Bool := l.getLast? == some 10
theorem suffix_val (x : ByteArray) (hx : x.size ≤ 4000000000) : internal_stringslite_HasSuffix x (⟨#[10]⟩ : ByteArray) = some (feedB (dat x)) := by
  unfold internal_stringslite_HasSuffix
  have z : (⟨#[10]⟩ : ByteArray).size = 1 := rfl
  rw [z]
  rcases List.eq_nil_or_concat (dat x) with hn | ⟨t, b, hn⟩
  · have hs : x.size = 0 := by rw [size_dat, hn]; rfl
    rw [if_neg (by rw [hs]; decide), hn]
    rfl
  · rw [List.concat_eq_append] at hn
    have hs : x.size = t.length + 1 := by rw [size_dat, hn]; simp
    rw [if_pos (by rw [hs]; simp; omega)]
    have hw : w64 ((x.size : Int) - ((1 : Nat) : Int)) = (t.length : Nat) := by rw [w64_id (by omega) (by omega)]; omega
    have e : sliceS x (some (t.length : Int)) none = some (x.extract t.length x.size) := by
      unfold sliceS bounds
      simp
      omega
    rw [hw, e]
    simp only [Option.bind_some]
    have he : strEq (x.extract t.length x.size) (⟨#[10]⟩ : ByteArray) = (b == 10) := by
      unfold strEq
      rw [ByteArray.toList_eq, ByteArray.toList_eq]
      have : (x.extract t.length x.size).data.toList = [b] := by
        have := dat_extract x t.length x.size
        rw [hn, hs, List.take_of_length_le (by simp), List.drop_left] at this
        rw [hs]
        exact this
      rw [this]
      simp
    rw [he, hn]
    unfold feedB
    simp
theorem feed_line {l : List UInt8} (h : isLine l) (hf : feedB l = true) : ∃ u, noFeed u ∧ l = u ++ [10] := by
  rcases h with h | ⟨h, hne⟩
  · exact h
  · have := beq_iff_eq.1 hf
    exact absurd rfl (h 10 (List.mem_of_getLast? this))
theorem ref_test (x : ByteArray) (hx : x.size ≤ 4000000000) : (if (strEq x (⟨#[]⟩ : ByteArray)) = true then (some true) else (Option.bind (strings_TrimSuffix x (⟨#[10]⟩ : ByteArray)) fun x134 => Option.bind (strings_Contains x134 (⟨#[10]⟩ : ByteArray)) fun x135 => some x135)) = some (!(lineB (dat x))) := by
  have hc : ∀ t : ByteArray, strings_Contains t (⟨#[10]⟩ : ByteArray) = some ((dat t).contains 10) := by
    intro t
    show some (decide (0 ≤ Go.Lib.indexByte (dat t) 10)) = _
    rw [ix_contains]
  rw [strEq_nil]
  rcases List.eq_nil_or_concat (dat x) with hn | ⟨t, b, hn⟩
  · rw [if_pos (by rw [hn]; rfl), hn]
    rfl
  · rw [List.concat_eq_append] at hn
    have hs : x.size = t.length + 1 := by rw [size_dat, hn]; simp
    rw [if_neg (by rw [hn]; simp)]
    have hl : lineB (dat x) = !(t.contains 10) := by rw [hn]; simp [lineB]
    rw [hl]
    unfold strings_TrimSuffix internal_stringslite_TrimSuffix
    rw [suffix_val x hx]
    have hf : feedB (dat x) = (b == 10) := by rw [hn]; simp [feedB]
    rw [hf]
    have z : (⟨#[10]⟩ : ByteArray).size = 1 := rfl
    by_cases hb : b = 10
    · have hw : w64 ((x.size : Int) - (((⟨#[10]⟩ : ByteArray).size : Nat) : Int)) = (t.length : Nat) := by rw [z, w64_id (by omega) (by omega)]; omega
      have e : sliceS x none (some (t.length : Int)) = some (x.extract 0 t.length) := by
        unfold sliceS bounds
        simp
        omega
      simp only [Option.bind_some, hb, beq_self_eq_true, if_true, hw, e, hc]
      rw [dat_extract, hn, List.take_left, List.drop_zero]
      simp
    · have hb' : (b == 10) = false := by simpa using hb
      simp only [Option.bind_some, hb', Bool.false_eq_true, if_false, hc, hn]
      simp [Ne.symm hb]
theorem join_flat (xs : List (List UInt8)) : Go.Lib.join xs [] = xs.flatten := by
  cases xs with
  | nil => rfl
  | cons x r => rw [Go.Lib.join_cons]; simp [Go.Lib.joinTail]
end Go.Proofs.YtcokjipcmpfgbaaDoor.M
