/-
  Reading a query: what is read: plain part.
-/
import Derived.Test.YtgeagllbckdfhaaQueryReadsWrdWords
namespace Go.Proofs.Ytgeagllbckdfhaa.M
open Go Go.Pu
set_option linter.unusedSimpArgs false
set_option linter.unusedVariables false

def spanE (q : UInt8 → Bool) (l : List UInt8) (i : Nat) : Nat := i + ((l.drop i).takeWhile q).length
theorem spanE_ge (q : UInt8 → Bool) (l : List UInt8) (i : Nat) : i ≤ spanE q l i := Nat.le_add_right ..
theorem spanE_le (q : UInt8 → Bool) (l : List UInt8) (i : Nat) (h : i ≤ l.length) : spanE q l i ≤ l.length := by
  unfold spanE
  have := (List.takeWhile_sublist (p := q) (l := l.drop i)).length_le
  rw [List.length_drop] at this
  omega
theorem spanE_stop {q : UInt8 → Bool} {l : List UInt8} {i : Nat} (h : ∀ b, l[i]? = some b → q b = false) : spanE q l i = i := by
  unfold spanE
  cases hd : l.drop i with
  | nil => rfl
  | cons b t =>
    have : l[i]? = some b := by have := List.getElem?_drop (xs := l) (i := i) (j := 0); rw [hd] at this; simpa using this.symm
    rw [List.takeWhile_cons, h b this]
    rfl
theorem spanE_step {q : UInt8 → Bool} {l : List UInt8} {i : Nat} {b : UInt8} (h : l[i]? = some b) (hw : q b = true) : spanE q l i = spanE q l (i + 1) := by
  obtain ⟨hi, rfl⟩ := List.getElem?_eq_some_iff.1 h
  unfold spanE
  rw [List.drop_eq_getElem_cons hi, List.takeWhile_cons, if_pos hw]
  simp
  omega
theorem wb_run {l : List UInt8} {i k : Nat} (h1 : i ≤ k) (h2 : k < runE l i) : ∃ b, l[k]? = some b ∧ wb b = true := by
  unfold runE at h2
  have hm : ∀ (m : List UInt8) (j : Nat), j < (m.takeWhile wb).length → ∃ b, m[j]? = some b ∧ wb b = true := by
    intro m
    induction m with
    | nil => intro j h; simp at h
    | cons a m ih =>
      intro j h
      cases ha : wb a with
      | false => rw [List.takeWhile_cons, ha] at h; simp at h
      | true =>
        rw [List.takeWhile_cons, ha] at h
        cases j with
        | zero => exact ⟨a, rfl, ha⟩
        | succ j => simp at h; exact ih j h
  obtain ⟨b, h3, h4⟩ := hm (l.drop i) (k - i) (by omega)
  rw [List.getElem?_drop] at h3
  exact ⟨b, by rwa [show i + (k - i) = k by omega] at h3, h4⟩
abbrev bl (b : UInt8) : Bool := b == 32
theorem is_val (s : ByteArray) (hs : s.size ≤ 1000) (i : Nat) (hi : i ≤ s.size) (c : Int) (b : UInt8) (hc : c = (b.toNat : Int)) :
    know_queryReader_is ⟨s, (i : Int)⟩ c = some (if s.data.toList[i]? = some b then (true, ⟨s, ((i + 1 : Nat) : Int)⟩) else (false, ⟨s, (i : Int)⟩)) := by
  unfold know_queryReader_is
  simp only
  by_cases h : i < s.size
  · have hb := List.getElem?_eq_getElem (l := s.data.toList) (i := i) (by rw [data_size]; exact h)
    rw [if_pos (by simp; omega), idxS_list, hb]
    simp only [Option.bind_some, hc]
    by_cases he : s.data.toList[i]'(by rw [data_size]; exact h) = b
    · rw [he, if_pos (by simp), if_pos rfl, w64_id (by omega) (by omega)]
      rfl
    · rw [if_neg, if_neg (fun e => he (Option.some.inj e))]
      intro e
      have e1 := beq_iff_eq.1 e
      exact he (UInt8.toNat_inj.1 (by omega))
  · rw [if_neg (by simp; omega), List.getElem?_eq_none (by rw [data_size]; omega)]
    rfl
theorem blanks_val (s : ByteArray) (hs : s.size ≤ 1000) (i : Nat) (hi : i ≤ s.size) : know_queryReader_blanks ⟨s, (i : Int)⟩ = some ⟨s, ((spanE bl s.data.toList i : Nat) : Int)⟩ := by
  unfold know_queryReader_blanks
  generalize hbody : (fun s10 : know_queryReader => _) = body
  suffices hx : ∃ r, whileB body (⟨s, (i : Int)⟩ : know_queryReader) = some r ∧ r = .fin (⟨s, ((spanE bl s.data.toList i : Nat) : Int)⟩ : know_queryReader) by
    obtain ⟨r, h, rfl⟩ := hx
    rw [h]; rfl
  refine whileB_spec (body := body) (fun t => ∃ j : Nat, t = ⟨s, (j : Int)⟩ ∧ j ≤ s.size ∧ spanE bl s.data.toList j = spanE bl s.data.toList i) (fun t => s.size - t.at_.toNat) _ ⟨i, rfl, hi, rfl⟩ ?_
  rintro _ ⟨j, rfl, h1, h2⟩
  subst hbody
  simp only
  rw [is_val s hs j h1 32 32 rfl, Option.bind_some]
  by_cases hb : s.data.toList[j]? = some 32
  · rw [if_pos hb]
    have hj : j < s.data.toList.length := (List.getElem?_eq_some_iff.1 hb).1
    rw [data_size] at hj
    refine ⟨_, rfl, ⟨j + 1, rfl, by omega, ?_⟩, by simp; omega⟩
    rw [← spanE_step hb (by decide), h2]
  · rw [if_neg hb]
    refine ⟨_, rfl, ?_⟩
    show Lp.fin (⟨s, (j : Int)⟩ : know_queryReader) = _
    rw [← h2, spanE_stop]
    intro b h
    by_cases e : b = 32
    · subst e; exact absurd h hb
    · simp [bl, e]
/-- one part of a query -/
def partAt (l : List UInt8) (i : Nat) : Nat ⊕ (know_Part × Nat) :=
  let st := if l[i]? = some 45 then i + 1 else i
  let nt := decide (l[i]? = some 45)
  if l[st]? = some 34 then
    if indexByteL (l.drop (st + 1)) 34 < 0 then .inl st
    else if wordsL ((l.drop (st + 1)).take (indexByteL (l.drop (st + 1)) 34).toNat) = [] then .inl st
    else .inr (⟨1, nt, wordsL ((l.drop (st + 1)).take (indexByteL (l.drop (st + 1)) 34).toNat)⟩, st + (indexByteL (l.drop (st + 1)) 34).toNat + 2)
  else if min (runE l st) (st + 30) = st then .inl st
  else if l[min (runE l st) (st + 30)]? = some 42 then .inr (⟨2, nt, [lowL ((l.drop st).take (min (runE l st) (st + 30) - st))]⟩, min (runE l st) (st + 30) + 1)
  else .inr (⟨0, nt, [lowL ((l.drop st).take (min (runE l st) (st + 30) - st))]⟩, min (runE l st) (st + 30))
theorem indexByteL_lt (l : List UInt8) (c : UInt8) : indexByteL l c < l.length ∧ -1 ≤ indexByteL l c := by
  induction l with
  | nil => simp [indexByteL]
  | cons b l ih =>
    rw [indexByteL]
    simp only [List.length_cons]
    split
    · omega
    · split <;> omega
theorem indexByte_val (s : ByteArray) (a : Nat) (c : Int) : strings_IndexByte (s.extract a s.size) c = indexByteL (s.data.toList.drop a) c.toNat.toUInt8 := by
  show indexByteL (s.extract a s.size).toList _ = _
  congr 1
  rw [ByteArray.toList_eq, extract_list]
  apply List.take_of_length_le
  rw [List.length_drop, data_size]
  omega
/-- the next place is further on -/
theorem partAt_lt {l : List UInt8} {i : Nat} (hi : i < l.length) : (∀ a, partAt l i = .inl a → i ≤ a ∧ a ≤ l.length) ∧ ∀ p nx, partAt l i = .inr (p, nx) → i < nx ∧ nx ≤ l.length := by
  unfold partAt
  have hst : i ≤ (if l[i]? = some 45 then i + 1 else i) ∧ (if l[i]? = some 45 then i + 1 else i) ≤ l.length := by split <;> omega
  generalize (if l[i]? = some 45 then i + 1 else i) = st at hst
  simp only
  have hr := runE_le l st hst.2
  have hg := runE_ge l st
  split
  · rename_i hq
    have hq1 := (List.getElem?_eq_some_iff.1 hq).1
    have hx := indexByteL_lt (l.drop (st + 1)) 34
    rw [List.length_drop] at hx
    split
    · exact ⟨fun a h => by cases h; omega, fun p nx h => by cases h⟩
    · split
      · exact ⟨fun a h => by cases h; omega, fun p nx h => by cases h⟩
      · exact ⟨fun a h => (by cases h), fun p nx h => by cases h; omega⟩
  · split
    · exact ⟨fun a h => by cases h; omega, fun p nx h => by cases h⟩
    · split
      · rename_i h1 h2
        have := (List.getElem?_eq_some_iff.1 h2).1
        exact ⟨fun a h => (by cases h), fun p nx h => by cases h; omega⟩
      · exact ⟨fun a h => (by cases h), fun p nx h => by cases h; omega⟩
/-- the loop over the letters of a part -/
theorem word_loop (s : ByteArray) (hs : s.size ≤ 1000) (st : Nat) (hst : st ≤ s.size) :
    whileB (R := know_Part × Bool × know_queryReader) (fun s99 : know_queryReader => Option.bind (if ((decide (s99.at_ < (s99.s.size : Int))) && (decide ((w64 (s99.at_ - (st : Int))) < 30))) = true then (Option.bind (idxS s99.s s99.at_) fun x114 => some (know_inWord (x114.toNat : Int))) else (some false)) fun s113 => if s113 = true then some (.nx (⟨s99.s, w64 (s99.at_ + 1)⟩ : know_queryReader)) else some (.bk s99)) (⟨s, (st : Int)⟩ : know_queryReader) = some (.fin (⟨s, ((min (runE s.data.toList st) (st + 30) : Nat) : Int)⟩ : know_queryReader)) := by
  generalize hbody : (fun s99 : know_queryReader => _) = body
  suffices hx : ∃ r, whileB (R := know_Part × Bool × know_queryReader) body (⟨s, (st : Int)⟩ : know_queryReader) = some r ∧ r = .fin (⟨s, ((min (runE s.data.toList st) (st + 30) : Nat) : Int)⟩ : know_queryReader) by
    obtain ⟨r, h, rfl⟩ := hx
    exact h
  refine whileB_spec (body := body) (fun t => ∃ j : Nat, t = ⟨s, (j : Int)⟩ ∧ st ≤ j ∧ j ≤ s.size ∧ j ≤ st + 30 ∧ runE s.data.toList j = runE s.data.toList st) (fun t => s.size - t.at_.toNat) _ ⟨st, rfl, by omega, hst, by omega, rfl⟩ ?_
  rintro _ ⟨j, rfl, h0, h1, h2, h3⟩
  subst hbody
  simp only
  have hg := runE_ge s.data.toList j
  rw [w64_id (n := (j : Int) - (st : Int)) (by omega) (by omega)]
  by_cases hj : j < s.size ∧ j < st + 30
  · have hb := List.getElem?_eq_getElem (l := s.data.toList) (i := j) (by rw [data_size]; exact hj.1)
    rw [if_pos (by simp; omega), idxS_list, hb]
    simp only [Option.bind_some, inWord_wb]
    cases hw : wb (s.data.toList[j]'(by rw [data_size]; exact hj.1)) with
    | true =>
      refine ⟨_, if_pos rfl, ⟨j + 1, ?_, by omega, by omega, by omega, ?_⟩, ?_⟩
      · rw [w64_id (by omega) (by omega)]; rfl
      · rw [← runE_step hb hw, h3]
      · simp only; rw [w64_id (by omega) (by omega)]; omega
    | false =>
      refine ⟨_, if_neg (by decide), ?_⟩
      have := runE_stop (l := s.data.toList) (i := j) fun b h => by rw [hb] at h; cases h; exact hw
      show Lp.fin (⟨s, (j : Int)⟩ : know_queryReader) = _
      rw [← h3, this, Nat.min_eq_left (by omega)]
  · rw [if_neg (by simp; omega)]
    refine ⟨_, rfl, ?_⟩
    show Lp.fin (⟨s, (j : Int)⟩ : know_queryReader) = _
    by_cases hn : j < s.size
    · rw [Nat.min_eq_right (by omega)]
      congr 3
      omega
    · have := runE_stop (l := s.data.toList) (i := j) fun b h => by rw [List.getElem?_eq_none (by rw [data_size]; omega)] at h; cases h
      rw [← h3, this, Nat.min_eq_left (by omega)]
theorem part_val (s : ByteArray) (hs : s.size ≤ 1000) (i : Nat) (hi : i < s.size) : match partAt s.data.toList i with
    | .inl a => ∃ p, know_queryReader_part ⟨s, (i : Int)⟩ = some (p, false, ⟨s, (a : Int)⟩)
    | .inr (p, nx) => know_queryReader_part ⟨s, (i : Int)⟩ = some (p, true, ⟨s, (nx : Int)⟩) := by
  unfold know_queryReader_part partAt
  rw [is_val s hs i (by omega) 45 45 rfl, Option.bind_some]
  have e : (if s.data.toList[i]? = some 45 then (true, (⟨s, ((i + 1 : Nat) : Int)⟩ : know_queryReader)) else (false, ⟨s, (i : Int)⟩)) = (decide (s.data.toList[i]? = some 45), ⟨s, (((if s.data.toList[i]? = some 45 then i + 1 else i) : Nat) : Int)⟩) := by
    split <;> simp_all
  rw [e]
  simp only
  have hst : (if s.data.toList[i]? = some 45 then i + 1 else i) ≤ s.size := by split <;> omega
  generalize (if s.data.toList[i]? = some 45 then i + 1 else i) = st at hst
  generalize decide (s.data.toList[i]? = some 45) = nt
  rw [is_val s hs st hst 34 34 rfl, Option.bind_some]
  have hr := runE_size s st hst
  have hg := runE_ge s.data.toList st
  by_cases hq : s.data.toList[st]? = some 34
  · rw [if_pos hq, if_pos hq]
    have hq1 := (List.getElem?_eq_some_iff.1 hq).1
    rw [data_size] at hq1
    simp only [if_true]
    rw [sliceS_from s (st + 1) (by omega), Option.bind_some, indexByte_val s (st + 1) 34]
    have hx := indexByteL_lt (s.data.toList.drop (st + 1)) 34
    rw [List.length_drop, data_size] at hx
    rw [show (34 : Int).toNat.toUInt8 = 34 from rfl]
    generalize hj : indexByteL (s.data.toList.drop (st + 1)) 34 = j at hx
    by_cases h0 : j < 0
    · rw [if_pos h0, if_neg (show ¬ (decide ((0 : Int) ≤ j) = true) by simp; omega), Option.bind_some]
      exact ⟨_, rfl⟩
    · rw [if_neg h0, if_pos (show decide ((0 : Int) ≤ j) = true by simp; omega)]
      obtain ⟨k, rfl⟩ := Int.eq_ofNat_of_zero_le (by omega : 0 ≤ j)
      rw [w64_id (n := ((st + 1 : Nat) : Int) + (k : Int)) (by omega) (by omega), show ((st + 1 : Nat) : Int) + (k : Int) = ((st + 1 + k : Nat) : Int) by omega, sliceS_nat s _ _ (by omega) (by omega)]
      simp only [Option.bind_some]
      rw [know_Words_val _ (by rw [ByteArray.size_extract]; omega), extract_list]
      simp only [Option.bind_some, Int.toNat_natCast]
      rw [show st + 1 + k - (st + 1) = k by omega]
      generalize wordsL ((s.data.toList.drop (st + 1)).take k) = W
      by_cases hw : W = []
      · subst hw
        exact ⟨_, rfl⟩
      · rw [if_neg hw, if_neg (show ¬ (((W.length : Int) == 0) = true) by simpa using hw), w64_id (n := (k : Int) + 1) (by omega) (by omega), w64_id (by omega) (by omega)]
        simp only
        congr 4
        omega
  · rw [if_neg hq, if_neg hq]
    simp only [Bool.false_eq_true, if_false]
    rw [word_loop s hs st hst, Option.bind_some, Lp.andThen_fin]
    simp only
    generalize hE : min (runE s.data.toList st) (st + 30) = E
    have hE1 : st ≤ E ∧ E ≤ s.size := by omega
    by_cases h0 : E = st
    · rw [if_pos h0, if_pos (show ((E : Int) == (st : Int)) = true by simp; omega), h0]
      exact ⟨_, rfl⟩
    · rw [if_neg h0, if_neg (show ¬ (((E : Int) == (st : Int)) = true) by simp; omega), sliceS_nat s _ _ hE1.1 hE1.2, Option.bind_some, know_lower_val _ (by rw [ByteArray.size_extract]; omega), Option.bind_some, is_val s hs E hE1.2 42 42 rfl, Option.bind_some]
      have el : lowB (s.extract st E) = lowL ((s.data.toList.drop st).take (E - st)) := by
        unfold lowB lowL
        rw [extract_list]
      rw [el]
      by_cases hst2 : s.data.toList[E]? = some 42
      · rw [if_pos hst2, if_pos hst2]; rfl
      · rw [if_neg hst2, if_neg hst2]; rfl
end Go.Proofs.Ytgeagllbckdfhaa.M
