import Derived.Test.YtjdjmddclfhpeaaGreatDoorTopFoundKxA
import Derived.KernelRfl
import Derived.Test.YtjdjmddclfhpeaaGreatDoorTopFoundKxC
namespace Go.Proofs.YtjdjmddclfhpeaaGreatDoor.M
open Go Go.Pu
set_option linter.unusedSimpArgs false
set_option linter.unusedVariables false
def spanE (q : UInt8 → Bool) (l : List UInt8) (i : Nat) : Nat := i + ((l.drop i).takeWhile q).length
theorem spanE_ge (q : UInt8 → Bool) (l : List UInt8) (i : Nat) : i ≤ spanE q l i := Nat.le_add_right ..
theorem spanE_le (q : UInt8 → Bool) (l : List UInt8) (i : Nat) (h : i ≤ l.length) : spanE q l i ≤ l.length := by
 unfold spanE
 have := (List.takeWhile_sublist (p := q) (l := l.drop i)).length_le
 rw [List.length_drop] at this
 omega
theorem spanE_stop {q : UInt8 → Bool} {l : List UInt8} {i : Nat} (h : ∀ b, l[i]? = some b → q b = false) : spanE q l i = i := by
 unfold spanE
 cases hd : l.drop i with
 | nil => rfl
 | cons b t =>
  have : l[i]? = some b := by have := List.getElem?_drop (xs := l) (i := i) (j := 0); rw [hd] at this; simpa using this.symm
  rw [List.takeWhile_cons, h b this]
  rfl
theorem spanE_step {q : UInt8 → Bool} {l : List UInt8} {i : Nat} {b : UInt8} (h : l[i]? = some b) (hw : q b = true) : spanE q l i = spanE q l (i + 1) := by
 obtain ⟨hi, rfl⟩ := List.getElem?_eq_some_iff.1 h
 unfold spanE
 rw [List.drop_eq_getElem_cons hi, List.takeWhile_cons, if_pos hw]
 simp
 omega
theorem wb_run {l : List UInt8} {i k : Nat} (h1 : i ≤ k) (h2 : k < runE l i) : ∃ b, l[k]? = some b ∧ wb b = true := by
 unfold runE at h2
 have hm : ∀ (m : List UInt8) (j : Nat), j < (m.takeWhile wb).length → ∃ b, m[j]? = some b ∧ wb b = true := by
  intro m
  induction m with
  | nil => intro j h; simp at h
  | cons a m ih =>
   intro j h
   cases ha : wb a with
   | false => rw [List.takeWhile_cons, ha] at h; simp at h
   | true =>
    rw [List.takeWhile_cons, ha] at h
    cases j with
    | zero => exact ⟨a, rfl, ha⟩
    | succ j => simp at h; exact ih j h
 obtain ⟨b, h3, h4⟩ := hm (l.drop i) (k - i) (by omega)
 rw [List.getElem?_drop] at h3
 exact ⟨b, by rwa [show i + (k - i) = k by omega] at h3, h4⟩
abbrev bl (b : UInt8) : Bool := b == 32
theorem is_val (s : ByteArray) (hs : s.size ≤ 1000) (i : Nat) (hi : i ≤ s.size) (c : Int) (b : UInt8) (hc : c = (b.toNat : Int)) :
  know_queryReader_is ⟨s, (i : Int)⟩ c = some (if s.data.toList[i]? = some b then (true, ⟨s, ((i + 1 : Nat) : Int)⟩) else (false, ⟨s, (i : Int)⟩)) := by
 unfold know_queryReader_is
 simp only
 by_cases h : i < s.size
 ·have hb := List.getElem?_eq_getElem (l := s.data.toList) (i := i) (by rw [data_size]; exact h)
  rw [if_pos (by simp; omega), idxS_list, hb]
  simp only [Option.bind_some, hc]
  by_cases he : s.data.toList[i]'(by rw [data_size]; exact h) = b
  ·rw [he, if_pos (by simp), if_pos rfl, w64_id (by omega) (by omega)]
   rfl
  ·rw [if_neg, if_neg (fun e => he (Option.some.inj e))]
   intro e
   have e1 := beq_iff_eq.1 e
   exact he (UInt8.toNat_inj.1 (by omega))
 ·rw [if_neg (by simp; omega), List.getElem?_eq_none (by rw [data_size]; omega)]
  rfl
theorem blanks_val (s : ByteArray) (hs : s.size ≤ 1000) (i : Nat) (hi : i ≤ s.size) : know_queryReader_blanks ⟨s, (i : Int)⟩ = some ⟨s, ((spanE bl s.data.toList i : Nat) : Int)⟩ := by
 unfold know_queryReader_blanks
 generalize hbody : (fun s10 : know_queryReader => _) = body
 suffices hx : ∃ r, whileB body (⟨s, (i : Int)⟩ : know_queryReader) = some r ∧ r = .fin (⟨s, ((spanE bl s.data.toList i : Nat) : Int)⟩ : know_queryReader) by
  obtain ⟨r, h, rfl⟩ := hx
  rw [h]; rfl
 refine whileB_spec (body := body) (fun t => ∃ j : Nat, t = ⟨s, (j : Int)⟩ ∧ j ≤ s.size ∧ spanE bl s.data.toList j = spanE bl s.data.toList i) (fun t => s.size - t.at_.toNat) _ ⟨i, rfl, hi, rfl⟩ ?_
 rintro _ ⟨j, rfl, h1, h2⟩
 subst hbody
 simp only
 rw [is_val s hs j h1 32 32 rfl, Option.bind_some]
 by_cases hb : s.data.toList[j]? = some 32
 ·rw [if_pos hb]
  have hj : j < s.data.toList.length := (List.getElem?_eq_some_iff.1 hb).1
  rw [data_size] at hj
  refine ⟨_, rfl, ⟨j + 1, rfl, by omega, ?_⟩, by simp; omega⟩
  rw [← spanE_step hb (by decide), h2]
 ·rw [if_neg hb]
  refine ⟨_, rfl, ?_⟩
  show Lp.fin (⟨s, (j : Int)⟩ : know_queryReader) = _
  rw [← h2, spanE_stop]
  intro b h
  by_cases e : b = 32
  ·subst e; exact absurd h hb
  ·simp [bl, e]
def partAt (l : List UInt8) (i : Nat) : Nat ⊕ (know_Part × Nat) :=
 let st := if l[i]? = some 45 then i + 1 else i
 let nt := decide (l[i]? = some 45)
 if l[st]? = some 34 then
  if indexByteL (l.drop (st + 1)) 34 < 0 then .inl st
  else if wordsL ((l.drop (st + 1)).take (indexByteL (l.drop (st + 1)) 34).toNat) = [] then .inl st
  else .inr (⟨1, nt, wordsL ((l.drop (st + 1)).take (indexByteL (l.drop (st + 1)) 34).toNat)⟩, st + (indexByteL (l.drop (st + 1)) 34).toNat + 2)
 else if min (runE l st) (st + 30) = st then .inl st
 else if l[min (runE l st) (st + 30)]? = some 42 then .inr (⟨2, nt, [lowL ((l.drop st).take (min (runE l st) (st + 30) - st))]⟩, min (runE l st) (st + 30) + 1)
 else .inr (⟨0, nt, [lowL ((l.drop st).take (min (runE l st) (st + 30) - st))]⟩, min (runE l st) (st + 30))
theorem indexByteL_lt (l : List UInt8) (c : UInt8) : indexByteL l c < l.length ∧ -1 ≤ indexByteL l c := by
 induction l with
 | nil => simp [indexByteL]
 | cons b l ih =>
  rw [indexByteL]
  simp only [List.length_cons]
  split
  ·omega
  ·split <;> omega
theorem indexByte_val (s : ByteArray) (a : Nat) (c : Int) : strings_IndexByte (s.extract a s.size) c = indexByteL (s.data.toList.drop a) c.toNat.toUInt8 := by
 show indexByteL (s.extract a s.size).toList _ = _
 congr 1
 rw [ByteArray.toList_eq, extract_list]
 apply List.take_of_length_le
 rw [List.length_drop, data_size]
 omega
theorem partAt_lt {l : List UInt8} {i : Nat} (hi : i < l.length) : (∀ a, partAt l i = .inl a → i ≤ a ∧ a ≤ l.length) ∧ ∀ p nx, partAt l i = .inr (p, nx) → i < nx ∧ nx ≤ l.length := by
 unfold partAt
 have hst : i ≤ (if l[i]? = some 45 then i + 1 else i) ∧ (if l[i]? = some 45 then i + 1 else i) ≤ l.length := by split <;> omega
 generalize (if l[i]? = some 45 then i + 1 else i) = st at hst
 simp only
 have hr := runE_le l st hst.2
 have hg := runE_ge l st
 split
 ·rename_i hq
  have hq1 := (List.getElem?_eq_some_iff.1 hq).1
  have hx := indexByteL_lt (l.drop (st + 1)) 34
  rw [List.length_drop] at hx
  split
  ·exact ⟨fun a h => by cases h; omega, fun p nx h => by cases h⟩
  ·split
   ·exact ⟨fun a h => by cases h; omega, fun p nx h => by cases h⟩
   ·exact ⟨fun a h => (by cases h), fun p nx h => by cases h; omega⟩
 ·split
  ·exact ⟨fun a h => by cases h; omega, fun p nx h => by cases h⟩
  ·split
   ·rename_i h1 h2
    have := (List.getElem?_eq_some_iff.1 h2).1
    exact ⟨fun a h => (by cases h), fun p nx h => by cases h; omega⟩
   ·exact ⟨fun a h => (by cases h), fun p nx h => by cases h; omega⟩
theorem word_loop (s : ByteArray) (hs : s.size ≤ 1000) (st : Nat) (hst : st ≤ s.size) :
  whileB (R := know_Part × Bool × know_queryReader) (fun s99 : know_queryReader => Option.bind (if ((decide (s99.at_ < (s99.s.size : Int))) && (decide ((w64 (s99.at_ - (st : Int))) < 30))) = true then (Option.bind (idxS s99.s s99.at_) fun x114 => some (know_inWord (x114.toNat : Int))) else (some false)) fun s113 => if s113 = true then some (.nx (⟨s99.s, w64 (s99.at_ + 1)⟩ : know_queryReader)) else some (.bk s99)) (⟨s, (st : Int)⟩ : know_queryReader) = some (.fin (⟨s, ((min (runE s.data.toList st) (st + 30) : Nat) : Int)⟩ : know_queryReader)) := by
 generalize hbody : (fun s99 : know_queryReader => _) = body
 suffices hx : ∃ r, whileB (R := know_Part × Bool × know_queryReader) body (⟨s, (st : Int)⟩ : know_queryReader) = some r ∧ r = .fin (⟨s, ((min (runE s.data.toList st) (st + 30) : Nat) : Int)⟩ : know_queryReader) by
  obtain ⟨r, h, rfl⟩ := hx
  exact h
 refine whileB_spec (body := body) (fun t => ∃ j : Nat, t = ⟨s, (j : Int)⟩ ∧ st ≤ j ∧ j ≤ s.size ∧ j ≤ st + 30 ∧ runE s.data.toList j = runE s.data.toList st) (fun t => s.size - t.at_.toNat) _ ⟨st, rfl, by omega, hst, by omega, rfl⟩ ?_
 rintro _ ⟨j, rfl, h0, h1, h2, h3⟩
 subst hbody
 simp only
 have hg := runE_ge s.data.toList j
 rw [w64_id (n := (j : Int) - (st : Int)) (by omega) (by omega)]
 by_cases hj : j < s.size ∧ j < st + 30
 ·have hb := List.getElem?_eq_getElem (l := s.data.toList) (i := j) (by rw [data_size]; exact hj.1)
  rw [if_pos (by simp; omega), idxS_list, hb]
  simp only [Option.bind_some, inWord_wb]
  cases hw : wb (s.data.toList[j]'(by rw [data_size]; exact hj.1)) with
  | true =>
   refine ⟨_, if_pos rfl, ⟨j + 1, ?_, by omega, by omega, by omega, ?_⟩, ?_⟩
   ·rw [w64_id (by omega) (by omega)]; rfl
   ·rw [← runE_step hb hw, h3]
   ·simp only; rw [w64_id (by omega) (by omega)]; omega
  | false =>
   refine ⟨_, if_neg (by decide), ?_⟩
   have := runE_stop (l := s.data.toList) (i := j) fun b h => by rw [hb] at h; cases h; exact hw
   show Lp.fin (⟨s, (j : Int)⟩ : know_queryReader) = _
   rw [← h3, this, Nat.min_eq_left (by omega)]
 ·rw [if_neg (by simp; omega)]
  refine ⟨_, rfl, ?_⟩
  show Lp.fin (⟨s, (j : Int)⟩ : know_queryReader) = _
  by_cases hn : j < s.size
  ·rw [Nat.min_eq_right (by omega)]
   congr 3
   omega
  ·have := runE_stop (l := s.data.toList) (i := j) fun b h => by rw [List.getElem?_eq_none (by rw [data_size]; omega)] at h; cases h
   rw [← h3, this, Nat.min_eq_left (by omega)]
theorem part_val (s : ByteArray) (hs : s.size ≤ 1000) (i : Nat) (hi : i < s.size) : match partAt s.data.toList i with
  | .inl a => ∃ p, know_queryReader_part ⟨s, (i : Int)⟩ = some (p, false, ⟨s, (a : Int)⟩)
  | .inr (p, nx) => know_queryReader_part ⟨s, (i : Int)⟩ = some (p, true, ⟨s, (nx : Int)⟩) := by
 unfold know_queryReader_part partAt
 rw [is_val s hs i (by omega) 45 45 rfl, Option.bind_some]
 have e : (if s.data.toList[i]? = some 45 then (true, (⟨s, ((i + 1 : Nat) : Int)⟩ : know_queryReader)) else (false, ⟨s, (i : Int)⟩)) = (decide (s.data.toList[i]? = some 45), ⟨s, (((if s.data.toList[i]? = some 45 then i + 1 else i) : Nat) : Int)⟩) := by
  split <;> simp_all
 rw [e]
 simp only
 have hst : (if s.data.toList[i]? = some 45 then i + 1 else i) ≤ s.size := by split <;> omega
 generalize (if s.data.toList[i]? = some 45 then i + 1 else i) = st at hst
 generalize decide (s.data.toList[i]? = some 45) = nt
 rw [is_val s hs st hst 34 34 rfl, Option.bind_some]
 have hr := runE_size s st hst
 have hg := runE_ge s.data.toList st
 by_cases hq : s.data.toList[st]? = some 34
 ·rw [if_pos hq, if_pos hq]
  have hq1 := (List.getElem?_eq_some_iff.1 hq).1
  rw [data_size] at hq1
  simp only [if_true]
  rw [sliceS_from s (st + 1) (by omega), Option.bind_some, indexByte_val s (st + 1) 34]
  have hx := indexByteL_lt (s.data.toList.drop (st + 1)) 34
  rw [List.length_drop, data_size] at hx
  rw [show (34 : Int).toNat.toUInt8 = 34 from rfl]
  generalize hj : indexByteL (s.data.toList.drop (st + 1)) 34 = j at hx
  by_cases h0 : j < 0
  ·rw [if_pos h0, if_neg (show ¬ (decide ((0 : Int) ≤ j) = true) by simp; omega), Option.bind_some]
   exact ⟨_, rfl⟩
  ·rw [if_neg h0, if_pos (show decide ((0 : Int) ≤ j) = true by simp; omega)]
   obtain ⟨k, rfl⟩ := Int.eq_ofNat_of_zero_le (by omega : 0 ≤ j)
   rw [w64_id (n := ((st + 1 : Nat) : Int) + (k : Int)) (by omega) (by omega), show ((st + 1 : Nat) : Int) + (k : Int) = ((st + 1 + k : Nat) : Int) by omega, sliceS_nat s _ _ (by omega) (by omega)]
   simp only [Option.bind_some]
   rw [know_Words_val _ (by rw [ByteArray.size_extract]; omega), extract_list]
   simp only [Option.bind_some, Int.toNat_natCast]
   rw [show st + 1 + k - (st + 1) = k by omega]
   generalize wordsL ((s.data.toList.drop (st + 1)).take k) = W
   by_cases hw : W = []
   ·subst hw
    exact ⟨_, rfl⟩
   ·rw [if_neg hw, if_neg (show ¬ (((W.length : Int) == 0) = true) by simpa using hw), w64_id (n := (k : Int) + 1) (by omega) (by omega), w64_id (by omega) (by omega)]
    simp only
    congr 4
    omega
 ·rw [if_neg hq, if_neg hq]
  simp only [Bool.false_eq_true, if_false]
  rw [word_loop s hs st hst, Option.bind_some, Lp.andThen_fin]
  simp only
  generalize hE : min (runE s.data.toList st) (st + 30) = E
  have hE1 : st ≤ E ∧ E ≤ s.size := by omega
  by_cases h0 : E = st
  ·rw [if_pos h0, if_pos (show ((E : Int) == (st : Int)) = true by simp; omega), h0]
   exact ⟨_, rfl⟩
  ·rw [if_neg h0, if_neg (show ¬ (((E : Int) == (st : Int)) = true) by simp; omega), sliceS_nat s _ _ hE1.1 hE1.2, Option.bind_some, know_lower_val _ (by rw [ByteArray.size_extract]; omega), Option.bind_some, is_val s hs E hE1.2 42 42 rfl, Option.bind_some]
   have el : lowB (s.extract st E) = lowL ((s.data.toList.drop st).take (E - st)) := by
    unfold lowB lowL
    rw [extract_list]
   rw [el]
   by_cases hst2 : s.data.toList[E]? = some 42
   ·rw [if_pos hst2, if_pos hst2]; rfl
   ·rw [if_neg hst2, if_neg hst2]; rfl
end Go.Proofs.YtjdjmddclfhpeaaGreatDoor.M
namespace Go.Proofs.YtjdjmddclfhpeaaGreatDoor.M
open Go Go.Pu
set_option linter.unusedSimpArgs false
set_option linter.unusedVariables false
def parseF : Nat → List UInt8 → List know_Part → Nat → Nat ⊕ List know_Part
 | 0, _, acc, _ => .inr acc
 | f + 1, l, acc, i => if l.length ≤ i then .inr acc else if l[i]? = some 32 then parseF f l acc (i + 1) else match partAt l i with
  | .inl a => .inl a
  | .inr (p, nx) => if nx < l.length ∧ l[nx]? ≠ some 32 then .inl nx else parseF f l (acc ++ [p]) nx
theorem parseF_fuel : ∀ (f g : Nat) (l : List UInt8) (acc : List know_Part) (i : Nat), l.length - i ≤ f → l.length - i ≤ g → parseF f l acc i = parseF g l acc i
 | 0, 0, _, _, _, _, _ => rfl
 | 0, g + 1, l, acc, i, h, _ => by rw [parseF, parseF, if_pos (by omega)]
 | f + 1, 0, l, acc, i, _, h => by rw [parseF, parseF, if_pos (by omega)]
 | f + 1, g + 1, l, acc, i, h1, h2 => by
  rw [parseF, parseF]
  by_cases hi : l.length ≤ i
  ·rw [if_pos hi, if_pos hi]
  rw [if_neg hi, if_neg hi]
  by_cases hb : l[i]? = some 32
  ·rw [if_pos hb, if_pos hb]
   exact parseF_fuel f g l acc (i + 1) (by omega) (by omega)
  rw [if_neg hb, if_neg hb]
  have hp := (partAt_lt (l := l) (i := i) (by omega)).2
  rcases hpa : partAt l i with a | ⟨p, nx⟩
  ·rfl
  have := hp p nx hpa
  simp only
  split
  ·rfl
  ·exact parseF_fuel f g l _ nx (by omega) (by omega)
def parse (l : List UInt8) (acc : List know_Part) (i : Nat) : Nat ⊕ List know_Part := parseF (l.length - i) l acc i
theorem parse_end {l : List UInt8} {acc : List know_Part} {i : Nat} (h : l.length ≤ i) : parse l acc i = .inr acc := by
 unfold parse
 rw [show l.length - i = 0 by omega, parseF]
theorem parse_at {l : List UInt8} {acc : List know_Part} {i : Nat} (h : i < l.length) : parse l acc i = if l[i]? = some 32 then parse l acc (i + 1) else match partAt l i with
  | .inl a => .inl a
  | .inr (p, nx) => if nx < l.length ∧ l[nx]? ≠ some 32 then .inl nx else parse l (acc ++ [p]) nx := by
 unfold parse
 obtain ⟨n, hn⟩ : ∃ n, l.length - i = n + 1 := ⟨l.length - i - 1, by omega⟩
 rw [hn, parseF, if_neg (by omega)]
 by_cases hb : l[i]? = some 32
 ·rw [if_pos hb, if_pos hb]
  exact parseF_fuel _ _ _ _ _ (by omega) (by omega)
 rw [if_neg hb, if_neg hb]
 have hp := (partAt_lt (l := l) (i := i) (by omega)).2
 rcases hpa : partAt l i with a | ⟨p, nx⟩
 ·rfl
 have := hp p nx hpa
 simp only
 split
 ·rfl
 ·exact parseF_fuel _ _ _ _ _ (by omega) (by omega)
theorem span_cases (l : List UInt8) (i : Nat) : spanE bl l i = i ∧ l[i]? ≠ some 32 ∨ l[i]? = some 32 ∧ spanE bl l i = spanE bl l (i + 1) := by
 by_cases hb : l[i]? = some 32
 ·exact .inr ⟨hb, spanE_step hb (by decide)⟩
 ·refine .inl ⟨spanE_stop fun b h => ?_, hb⟩
  by_cases e : b = 32
  ·subst e; exact absurd h hb
  ·simp [bl, e]
theorem parse_skip (l : List UInt8) (acc : List know_Part) : ∀ (n i : Nat), l.length - i ≤ n → parse l acc (spanE bl l i) = parse l acc i ∧ l[spanE bl l i]? ≠ some 32
 | 0, i, h => by
  rcases span_cases l i with ⟨h1, h2⟩ | ⟨h1, h2⟩
  ·rw [h1]; exact ⟨rfl, h2⟩
  ·rw [List.getElem?_eq_none (by omega)] at h1; cases h1
 | n + 1, i, h => by
  rcases span_cases l i with ⟨h1, h2⟩ | ⟨h1, h2⟩
  ·rw [h1]; exact ⟨rfl, h2⟩
  ·have hi := (List.getElem?_eq_some_iff.1 h1).1
   obtain ⟨h3, h4⟩ := parse_skip l acc n (i + 1) (by omega)
   rw [h2, parse_at hi, if_pos h1]
   exact ⟨h3, h4⟩
def read (l : List UInt8) : know_Query × Int × Int := match parse l [] 0 with
 | .inl a => (⟨[]⟩, (a : Int), 8)
 | .inr acc => if 20 < acc.length then (⟨[]⟩, 0, 4) else (⟨acc⟩, 0, 0)
theorem append_part {acc : List know_Part} {p : know_Part} (h : acc.length ≤ 1000) : appendL 3518437208883 acc ([p] : List know_Part) = some (acc ++ [p]) := by
 unfold appendL
 rw [if_pos (by simp; omega)]
theorem readQuery_val (s : ByteArray) (hs : s.size ≤ 400) : know_ReadQuery s = some (read s.data.toList) := by
 unfold know_ReadQuery
 rw [if_neg (by simp; omega), show (⟨s, 0⟩ : know_queryReader) = ⟨s, ((0 : Nat) : Int)⟩ from rfl, blanks_val s (by omega) 0 (by omega), Option.bind_some]
 generalize hbody : (fun s39 : know_queryReader × know_Query × know_Query => _) = body
 have hl := data_size s
 suffices hx : ∃ r, whileB body ((⟨s, ((spanE bl s.data.toList 0 : Nat) : Int)⟩ : know_queryReader), (⟨[]⟩ : know_Query), (⟨[]⟩ : know_Query)) = some r ∧ (match parse s.data.toList [] 0 with
   | .inl a => r = .rt ((⟨[]⟩ : know_Query), (a : Int), (8 : Int))
   | .inr acc => ∃ t z, r = .fin (t, (⟨acc⟩ : know_Query), z)) by
  obtain ⟨r, h, hr⟩ := hx
  rw [h, Option.bind_some]
  unfold read
  rcases hp : parse s.data.toList [] 0 with a | acc <;> rw [hp] at hr
  ·rw [hr]; rfl
  ·obtain ⟨t, z, rfl⟩ := hr
   simp only [Lp.andThen_fin]
   by_cases h20 : 20 < acc.length
   ·rw [if_pos (by simp; omega), if_pos h20]
   ·rw [if_neg (by simp; omega), if_neg h20]
 refine whileB_spec (body := body) (fun t => ∃ (i : Nat) (acc : List know_Part), t = (⟨s, (i : Int)⟩, ⟨acc⟩, ⟨[]⟩) ∧ i ≤ s.size ∧ acc.length ≤ i ∧ s.data.toList[i]? ≠ some 32 ∧ parse s.data.toList acc i = parse s.data.toList [] 0) (fun t => s.size - t.1.at_.toNat) _ ?_ ?_
 ·have h1 := parse_skip s.data.toList [] s.data.toList.length 0 (by omega)
  have h2 := spanE_le bl s.data.toList 0 (by omega)
  exact ⟨_, [], rfl, by omega, by simp, h1.2, h1.1⟩
 rintro _ ⟨i, acc, rfl, h1, h2, h3, h4⟩
 subst hbody
 simp only
 by_cases hi : i < s.size
 ·rw [if_pos (by simp; omega)]
  have hpv := part_val s (by omega) i hi
  have hlt := partAt_lt (l := s.data.toList) (i := i) (by omega)
  rw [parse_at (by omega), if_neg h3] at h4
  rcases hpa : partAt s.data.toList i with a | ⟨p, nx⟩ <;> rw [hpa] at hpv h4 <;> simp only at hpv h4
  ·obtain ⟨p, hp⟩ := hpv
   rw [hp, Option.bind_some]
   refine ⟨_, rfl, ?_⟩
   rw [← h4]
  ·have hnx := hlt.2 p nx hpa
   rw [hpv, Option.bind_some]
   simp only [Bool.not_true, Bool.false_eq_true, if_false]
   rw [append_part (by omega), Option.bind_some]
   by_cases he : nx = s.size
   ·rw [if_pos (show ((nx : Int) == (s.size : Int)) = true by simp; omega)]
    refine ⟨_, rfl, ?_⟩
    rw [if_neg (by omega), parse_end (by omega)] at h4
    rw [← h4]
    exact ⟨_, _, rfl⟩
   ·rw [if_neg (show ¬ (((nx : Int) == (s.size : Int)) = true) by simp; omega), is_val s (by omega) nx (by omega) 32 32 rfl, Option.bind_some]
    by_cases hb : s.data.toList[nx]? = some 32
    ·rw [if_pos hb]
     simp only [Bool.not_true, Bool.false_eq_true, if_false]
     rw [blanks_val s (by omega) (nx + 1) (by omega), Option.bind_some]
     have h5 := parse_skip s.data.toList (acc ++ [p]) s.data.toList.length (nx + 1) (by omega)
     have h6 := spanE_le bl s.data.toList (nx + 1) (by omega)
     have h7 := spanE_ge bl s.data.toList (nx + 1)
     refine ⟨_, rfl, ⟨_, acc ++ [p], rfl, by omega, by simp; omega, h5.2, ?_⟩, ?_⟩
     ·rw [if_neg (fun h => h.2 hb), parse_at (by omega), if_pos hb] at h4
      rw [h5.1, h4]
     ·simp only; omega
    ·rw [if_neg hb]
     refine ⟨_, rfl, ?_⟩
     rw [if_pos ⟨by omega, hb⟩] at h4
     rw [← h4]
 ·rw [if_neg (by simp; omega)]
  refine ⟨_, rfl, ?_⟩
  rw [← h4, parse_end (by omega)]
  exact ⟨_, _, rfl⟩
end Go.Proofs.YtjdjmddclfhpeaaGreatDoor.M
namespace Go.Proofs.YtjdjmddclfhpeaaGreatDoor.M
open Go Go.Pu
set_option linter.unusedSimpArgs false
set_option linter.unusedVariables false
theorem rangeB_part {S R : Type} {b : Nat → S → Option (Ctl S R)} (n : Nat) (I : Nat → S → Prop) (Q : R → Prop) {s : S} (h0 : I 0 s)
  (step : ∀ k s c, k < n → I k s → b k s = some c → (∀ t, c = .nx t → I (k + 1) t) ∧ (∀ t, c = .bk t → I n t) ∧ ∀ r, c = .rt r → Q r) {o : Lp S R} (h : rangeB b n 0 s = some o) : (∀ t, o = .fin t → I n t) ∧ ∀ r, o = .rt r → Q r := by
 have key : ∀ m k s, k + m = n → I k s → ∀ o, rangeB b m k s = some o → (∀ t, o = .fin t → I n t) ∧ ∀ r, o = .rt r → Q r := by
  intro m
  induction m with
  | zero =>
   intro k s hk hI o ho
   obtain rfl : k = n := by omega
   cases ho
   exact ⟨fun t e => by cases e; exact hI, fun r e => by cases e⟩
  | succ m ih =>
   intro k s hk hI o ho
   rw [rangeB] at ho
   cases hb : b k s with
   | none => rw [hb] at ho; cases ho
   | some c =>
    rw [hb] at ho
    obtain ⟨g1, g2, g3⟩ := step k s c (by omega) hI hb
    cases c with
    | nx t => exact ih (k + 1) t (by omega) (g1 t rfl) o ho
    | bk t => cases ho; exact ⟨fun t e => by cases e; exact g2 _ rfl, fun r e => by cases e⟩
    | rt r => cases ho; exact ⟨fun t e => (by cases e), fun r e => by cases e; exact g3 _ rfl⟩
 exact key n 0 s (by omega) h0 o h
theorem whileB_part {S R : Type} {b : S → Option (Ctl S R)} (Q : Lp S R → Prop) {s : S} {o : Lp S R} (h : whileB b s = some o)
  (step : ∀ s c, b s = some c → match c with | .nx t => True | .bk t => Q (.fin t) | .rt r => Q (.rt r)) : Q o := by
 obtain ⟨n, hn⟩ := whileB_iff.1 h
 clear h
 induction n generalizing s with
 | zero => cases hn
 | succ n ih =>
  rw [whileN] at hn
  cases hb : b s with
  | none => rw [hb] at hn; cases hn
  | some c =>
   rw [hb] at hn
   have := step s c hb
   cases c with
   | nx t => exact ih hn
   | bk t => cases hn; exact this
   | rt r => cases hn; exact this
theorem low_all : ((List.range 256).all fun i => wb (low8 (UInt8.ofNat i)) == wb (UInt8.ofNat i) && low8 (low8 (UInt8.ofNat i)) == low8 (UInt8.ofNat i)) = true := by kernel_rfl
theorem low_keep (b : UInt8) : wb (low8 b) = wb b ∧ low8 (low8 b) = low8 b := by
 have h := List.all_eq_true.1 low_all b.toNat (List.mem_range.2 b.toNat_lt)
 rw [UInt8.ofNat_toNat, Bool.and_eq_true, beq_iff_eq, beq_iff_eq] at h
 exact h
structure Word (w : ByteArray) : Prop where
 ne : w.data.toList ≠ []
 len : w.data.toList.length ≤ 30
 bytes : ∀ b ∈ w.data.toList, wb b = true ∧ low8 b = b
theorem takeW_all {α : Type} (p : α → Bool) : ∀ l : List α, (∀ b ∈ l, p b = true) → l.takeWhile p = l
 | [], _ => rfl
 | b :: l, h => by rw [List.takeWhile_cons, if_pos (h b List.mem_cons_self), takeW_all p l fun c hc => h c (List.mem_cons_of_mem _ hc)]
theorem Word.one {w : ByteArray} (h : Word w) : wordsL w.data.toList = [w] := by
 have ht : w.data.toList.takeWhile wb = w.data.toList := takeW_all _ _ fun b hb => (h.bytes b hb).1
 rw [wordsL_eq h.ne, headW, ht, if_pos ⟨h.ne, h.len⟩, List.drop_eq_nil_of_le (by omega), wordsL_nil, List.append_nil]
 congr 1
 unfold lowL
 have : w.data.toList.map low8 = w.data.toList := by
  conv => rhs; rw [← List.map_id w.data.toList]
  exact List.map_congr_left fun b hb => (h.bytes b hb).2
 rw [this]
theorem takeW_mem {α : Type} {p : α → Bool} {l : List α} {b : α} (h : b ∈ l.takeWhile p) : p b = true := by
 induction l with
 | nil => cases h
 | cons a l ih =>
  rw [List.takeWhile_cons] at h
  split at h
  ·rcases List.mem_cons.1 h with rfl | h
   ·assumption
   ·exact ih h
  ·cases h
theorem wordsF_word : ∀ (n : Nat) (l : List UInt8), ∀ w ∈ wordsF n l, Word w
 | 0, _, w, h => by cases h
 | n + 1, l, w, h => by
  rw [wordsF] at h
  split at h
  ·cases h
  rcases List.mem_append.1 h with h1 | h1
  ·unfold headW at h1
   split at h1
   ·rename_i hc
    rw [List.mem_singleton] at h1
    subst h1
    refine ⟨fun e => hc.1 ?_, ?_, fun b hb => ?_⟩
    ·have : (l.takeWhile wb).map low8 = [] := e
     exact List.map_eq_nil_iff.1 this
    ·show ((l.takeWhile wb).map low8).length ≤ 30
     rw [List.length_map]
     exact hc.2
    ·have hb' : b ∈ (l.takeWhile wb).map low8 := hb
     obtain ⟨c, hc1, rfl⟩ := List.mem_map.1 hb'
     exact ⟨(low_keep c).1.trans (takeW_mem hc1), (low_keep c).2⟩
   ·cases h1
  ·exact wordsF_word n _ w h1
theorem words_word {l : List UInt8} {w : ByteArray} (h : w ∈ wordsL l) : Word w := wordsF_word _ _ _ h
theorem Word.size {w : ByteArray} (h : Word w) : 1 ≤ w.size ∧ w.size ≤ 30 := by
 have h1 := h.ne
 have h2 := h.len
 rw [data_size] at h2
 refine ⟨?_, h2⟩
 rcases Nat.eq_zero_or_pos w.size with h3 | h3
 ·exact absurd (List.eq_nil_of_length_eq_zero (by rw [data_size]; exact h3)) h1
 ·exact h3
theorem Word.pre {w : ByteArray} (h : Word w) {k : Nat} (h1 : 1 ≤ k) (h2 : k ≤ w.size) : Word (w.extract 0 k) := by
 have e : (w.extract 0 k).data.toList = w.data.toList.take k := by rw [extract_list, List.drop_zero, Nat.sub_zero]
 have hl := h.len
 refine ⟨fun e0 => ?_, ?_, fun b hb => ?_⟩
 ·rw [e] at e0
  have := congrArg List.length e0
  rw [List.length_take, data_size, List.length_nil] at this
  omega
 ·rw [e, List.length_take]; omega
 ·rw [e] at hb
  exact h.bytes b (List.mem_of_mem_take hb)
theorem Word.snoc {w : ByteArray} (h : Word w) (hl : w.size ≤ 29) {b : UInt8} (hb : wb b = true ∧ low8 b = b) : Word (w ++ ⟨#[b]⟩) := by
 have e : (w ++ (⟨#[b]⟩ : ByteArray)).data.toList = w.data.toList ++ [b] := by rw [ByteArray.data_append, Array.toList_append]
 refine ⟨by rw [e]; simp, by rw [e, List.length_append, data_size, List.length_singleton]; omega, fun c hc => ?_⟩
 rw [e] at hc
 rcases List.mem_append.1 hc with h1 | h1
 ·exact h.bytes c h1
 ·rw [List.mem_singleton.1 h1]; exact hb
theorem cut_val (w : ByteArray) (hw : w.size ≤ 30) (k : Nat) (hk : k ≤ w.size) : sliceS w none (some (w64 ((w.size : Int) - (k : Int)))) = some (w.extract 0 (w.size - k)) := by
 have e : w64 ((w.size : Int) - (k : Int)) = ((w.size - k : Nat) : Int) := by rw [w64_id (by omega) (by omega)]; omega
 rw [e, ← sliceS_nat w 0 (w.size - k) (Nat.zero_le _) (by omega)]
 unfold sliceS bounds
 simp
theorem stem_word {w r : ByteArray} (h : Word w) (hr : know_Stem w = some r) : Word r := by
 have hs := h.size
 unfold know_Stem at hr
 generalize hbody : (fun s8 : Int => _) = body at hr
 cases ho : whileB body 0 with
 | none => rw [ho] at hr; cases hr
 | some o =>
 rw [ho, Option.bind_some] at hr
 have hq : o = .rt w ∨ ∃ t, o = .fin t := by
  refine whileB_part (fun o => o = .rt w ∨ ∃ t, o = .fin t) ho fun s c hc => ?_
  subst hbody
  simp only at hc
  split at hc
  ·obtain ⟨x, hx, hc⟩ := Option.bind_eq_some_iff.1 hc
   obtain ⟨y, hy, hc⟩ := Option.bind_eq_some_iff.1 hc
   split at hc
   ·cases hc; exact Or.inl rfl
   ·cases hc; trivial
  ·cases hc; exact Or.inr ⟨_, rfl⟩
 rcases hq with rfl | ⟨t, rfl⟩
 ·cases hr; exact h
 rw [Lp.andThen_fin] at hr
 have c3 := fun hk => cut_val w (by omega) 3 hk
 have c2 := fun hk => cut_val w (by omega) 2 hk
 have c1 := fun hk => cut_val w (by omega) 1 hk
 by_cases h4 : (w.size : Int) < 4
 ·rw [if_pos (by simpa using h4)] at hr
  cases hr; exact h
 rw [if_neg (by simpa using h4)] at hr
 obtain ⟨b1, e1⟩ := suf_some w (⟨#[105, 101, 115]⟩ : ByteArray) (by omega)
 obtain ⟨b2, e2⟩ := suf_some w (⟨#[115, 115, 101, 115]⟩ : ByteArray) (by omega)
 obtain ⟨b3, e3⟩ := suf_some w (⟨#[115, 115]⟩ : ByteArray) (by omega)
 obtain ⟨b4, e4⟩ := suf_some w (⟨#[115]⟩ : ByteArray) (by omega)
 obtain ⟨b5, e5⟩ := suf_some w (⟨#[105, 110, 103]⟩ : ByteArray) (by omega)
 obtain ⟨b6, e6⟩ := suf_some w (⟨#[101, 100]⟩ : ByteArray) (by omega)
 have f3 : sliceS w none (some (w64 ((w.size : Int) - 3))) = some (w.extract 0 (w.size - 3)) := c3 (by omega)
 have f2 : sliceS w none (some (w64 ((w.size : Int) - 2))) = some (w.extract 0 (w.size - 2)) := c2 (by omega)
 have f1 : sliceS w none (some (w64 ((w.size : Int) - 1))) = some (w.extract 0 (w.size - 1)) := c1 (by omega)
 have g3 := h.pre (k := w.size - 3) (by omega) (by omega)
 have g2 := h.pre (k := w.size - 2) (by omega) (by omega)
 have g1 := h.pre (k := w.size - 1) (by omega) (by omega)
 rw [e1, Option.bind_some] at hr
 split at hr
 ·rw [f3, Option.bind_some] at hr
  obtain ⟨y, hy, hr⟩ := Option.bind_eq_some_iff.1 hr
  cases hr
  unfold catS at hy
  split at hy
  ·cases hy
  cases hy
  exact g3.snoc (by rw [ByteArray.size_extract]; omega) (by decide)
 rw [e2, Option.bind_some] at hr
 split at hr
 ·rw [f2] at hr; cases hr; exact g2
 rw [e3, Option.bind_some] at hr
 split at hr
 ·cases hr; exact h
 rw [e4, Option.bind_some] at hr
 split at hr
 ·rw [f1] at hr; cases hr; exact g1
 rw [e5, Option.bind_some] at hr
 split at hr
 ·rw [f3] at hr; cases hr; exact g3
 rw [e6, Option.bind_some] at hr
 split at hr
 ·rw [f2] at hr; cases hr; exact g2
 ·cases hr; exact h
theorem stemF_word {w : ByteArray} (h : Word w) : Word (stemF w) := stem_word h (stemF_val w (by have := h.size; omega)).1
theorem stems_word {s t : ByteArray} (h : t ∈ stemsL s) : Word t := by
 unfold stemsL at h
 obtain ⟨w, hw, rfl⟩ := List.mem_map.1 h
 exact stemF_word (words_word hw)
end Go.Proofs.YtjdjmddclfhpeaaGreatDoor.M
namespace Go.Proofs.YtjdjmddclfhpeaaGreatDoor.M
open Go Go.Pu
set_option linter.unusedSimpArgs false
set_option linter.unusedVariables false
theorem join_sum : ∀ (xs : List ByteArray), (joinB xs ⟨#[32]⟩).size ≤ (xs.map fun s => s.size + 1).sum ∧ (xs ≠ [] → (joinB xs ⟨#[32]⟩).size + 1 = (xs.map fun s => s.size + 1).sum)
 | [] => by
  refine ⟨?_, fun h => absurd rfl h⟩
  show (Go.Lib.join [] _).toArray.size ≤ _
  rw [Go.Lib.join_nil]
  simp
 | x :: xs => by
  have key : (joinB (x :: xs) ⟨#[32]⟩).size + 1 = ((x :: xs).map fun s => s.size + 1).sum := by
   show (Go.Lib.join (x.data.toList :: xs.map (·.data.toList)) [32]).toArray.size + 1 = _
   rw [List.size_toArray, Go.Lib.join_length, List.length_map, List.length_singleton]
   have h : ∀ ys : List ByteArray, Go.Lib.lens (ys.map (·.data.toList)) + ys.length = (ys.map fun s => s.size + 1).sum := by
    intro ys
    induction ys with
    | nil => rfl
    | cons y ys ih =>
     rw [List.map_cons, List.map_cons, List.sum_cons, ← ih, List.length_cons]
     unfold Go.Lib.lens
     rw [List.map_cons, List.sum_cons, data_size]
     omega
   have := h (x :: xs)
   rw [List.map_cons, List.length_cons] at this
   rw [← this]
   omega
  exact ⟨by omega, fun _ => key⟩
theorem head_cost (l : List UInt8) : ((headW l).map fun s => s.size + 1).sum ≤ (l.takeWhile wb).length + 1 := by
 unfold headW
 split
 ·show (((l.takeWhile wb).map low8).toArray.size + 1) + 0 ≤ _
  rw [List.size_toArray, List.length_map]
  omega
 ·simp
theorem wordsF_cost : ∀ (n : Nat) (l : List UInt8), ((wordsF n l).map fun s => s.size + 1).sum ≤ l.length + 1
 | 0, l => by simp [wordsF]
 | n + 1, l => by
  rw [wordsF]
  split
  ·simp
  ·have h1 := head_cost l
   have ht := (List.takeWhile_sublist (p := wb) (l := l)).length_le
   rw [List.map_append, List.sum_append]
   rcases Nat.lt_or_ge (l.takeWhile wb).length l.length with h | h
   ·have h2 := wordsF_cost n (l.drop ((l.takeWhile wb).length + 1))
    rw [List.length_drop] at h2
    omega
   ·have h3 : wordsF n (l.drop ((l.takeWhile wb).length + 1)) = [] := by
     rw [List.drop_eq_nil_of_le (by omega)]
     cases n <;> rfl
    rw [h3]
    simp only [List.map_nil, List.sum_nil]
    omega
theorem Word.good {w : ByteArray} (h : Word w) : badW w = false := by
 unfold badW
 rw [h.one, List.headD_cons, strEq_self]
 rfl
structure Good (p : know_Part) : Prop where
 bad : badP p = false
 word : p.words.any badW = false
 size : ∀ w ∈ p.words, w.size ≤ 30
 len : p.words.length ≤ 1000
theorem sz1 (b : UInt8) : (⟨#[b]⟩ : ByteArray).size = 1 := rfl
theorem words_any_no {ws : List ByteArray} (h : ∀ w ∈ ws, Word w) : ws.any badW = false := by
 rw [List.any_eq_false]
 intro w hw
 rw [(h w hw).good]
 exact Bool.false_ne_true
theorem text_size (p : know_Part) : (partText p).size ≤ (if p.not_ = true then 1 else 0) + (joinB p.words ⟨#[32]⟩).size + (if p.kind = 1 then 2 else if p.kind = 2 then 1 else 0) := by
 unfold partText
 simp only
 split <;> split <;> (try split) <;> (try simp only [ByteArray.size_append, sz1]) <;> omega
theorem low_word {l : List UInt8} {st E : Nat} (h1 : st < E) (h2 : E ≤ runE l st) (h3 : E ≤ st + 30) (h4 : st ≤ l.length) : Word (lowL ((l.drop st).take (E - st))) ∧ (lowL ((l.drop st).take (E - st))).size = E - st := by
 have hr := runE_le l st h4
 have hlen : ((l.drop st).take (E - st)).length = E - st := by rw [List.length_take, List.length_drop]; omega
 have hm : ((l.drop st).take (E - st)).length = (((l.drop st).take (E - st)).map low8).length := (List.length_map _).symm
 refine ⟨⟨fun e => ?_, ?_, fun b hb => ?_⟩, ?_⟩
 ·have e' : ((l.drop st).take (E - st)).map low8 = [] := e
  rw [e'] at hm
  simp at hm
  omega
 ·show (((l.drop st).take (E - st)).map low8).length ≤ 30
  omega
 ·have hb' : b ∈ ((l.drop st).take (E - st)).map low8 := hb
  obtain ⟨c, hc, rfl⟩ := List.mem_map.1 hb'
  refine ⟨(low_keep c).1.trans ?_, (low_keep c).2⟩
  obtain ⟨j, hj⟩ := List.mem_iff_getElem?.1 hc
  have hj1 : j < E - st := by have := (List.getElem?_eq_some_iff.1 hj).1; omega
  rw [List.getElem?_take, if_pos hj1, List.getElem?_drop] at hj
  obtain ⟨b, b1, b2⟩ := wb_run (l := l) (i := st) (k := st + j) (by omega) (by omega)
  rw [b1] at hj
  cases hj
  exact b2
 ·show (((l.drop st).take (E - st)).map low8).toArray.size = E - st
  rw [List.size_toArray]
  omega
theorem part_good {l : List UInt8} (hl : l.length ≤ 400) {i : Nat} (hi : i < l.length) {p : know_Part} {nx : Nat} (h : partAt l i = .inr (p, nx)) : Good p ∧ i + (partText p).size ≤ nx := by
 unfold partAt at h
 have hst : (if l[i]? = some 45 then i + 1 else i) = i + (if decide (l[i]? = some 45) = true then 1 else 0) ∧ (if l[i]? = some 45 then i + 1 else i) ≤ l.length := by
  constructor
  ·by_cases h : l[i]? = some 45 <;> simp [h]
  ·split <;> omega
 generalize (if l[i]? = some 45 then i + 1 else i) = st at hst h
 generalize decide (l[i]? = some 45) = nt at hst h
 obtain ⟨hst1, hst2⟩ := hst
 simp only at h
 have hts := text_size p
 split at h
 ·rename_i hq
  have hq1 := (List.getElem?_eq_some_iff.1 hq).1
  have hx := indexByteL_lt (l.drop (st + 1)) 34
  rw [List.length_drop] at hx
  split at h
  ·cases h
  split at h
  ·cases h
  rename_i h0 hw
  cases h
  generalize (indexByteL (l.drop (st + 1)) 34) = j at *
  have hk : ((l.drop (st + 1)).take j.toNat).length = j.toNat := by rw [List.length_take, List.length_drop]; omega
  have hc := wordsF_cost ((l.drop (st + 1)).take j.toNat).length ((l.drop (st + 1)).take j.toNat)
  have hll := wordsF_length ((l.drop (st + 1)).take j.toNat).length ((l.drop (st + 1)).take j.toNat)
  have hww : ∀ w ∈ wordsL ((l.drop (st + 1)).take j.toNat), Word w := fun w hw => words_word hw
  change ((wordsL ((l.drop (st + 1)).take j.toNat)).map fun s => s.size + 1).sum ≤ _ at hc
  change (wordsL ((l.drop (st + 1)).take j.toNat)).length ≤ _ at hll
  generalize wordsL ((l.drop (st + 1)).take j.toNat) = W at *
  have hj := (join_sum W).2 hw
  refine ⟨⟨?_, words_any_no hww, fun w h => (hww w h).size.2, by simp only; omega⟩, ?_⟩
  ·have : W.length ≠ 0 := fun e => hw (List.eq_nil_of_length_eq_zero e)
   unfold badP
   simp
   exact hw
  ·simp only [if_true] at hts
   omega
 ·have hg := runE_ge l st
  generalize hE : min (runE l st) (st + 30) = E at *
  split at h
  ·cases h
  rename_i hne
  obtain ⟨w1, w2⟩ := low_word (l := l) (st := st) (E := E) (by omega) (by omega) (by omega) hst2
  have hj := (join_sum [lowL ((l.drop st).take (E - st))]).2 (by simp)
  rw [List.map_cons, List.map_nil, List.sum_cons, List.sum_nil, w2] at hj
  have hall : ∀ w ∈ [lowL ((l.drop st).take (E - st))], Word w := fun w hw => by rw [List.mem_singleton.1 hw]; exact w1
  split at h
  ·cases h
   refine ⟨⟨rfl, words_any_no hall, fun w h => (hall w h).size.2, by simp⟩, ?_⟩
   simp only at hts
   rw [if_neg (show ¬ ((2 : Int) = 1) by decide), if_pos trivial] at hts
   omega
  ·cases h
   refine ⟨⟨rfl, words_any_no hall, fun w h => (hall w h).size.2, by simp⟩, ?_⟩
   simp only at hts
   rw [if_neg (show ¬ ((0 : Int) = 1) by decide), if_neg (show ¬ ((0 : Int) = 2) by decide)] at hts
   omega
theorem parse_cost {l : List UInt8} (hl : l.length ≤ 400) : ∀ (n : Nat) (acc : List know_Part) (i : Nat) (acc' : List know_Part), l.length - i ≤ n → parse l acc i = .inr acc' →
  ∃ new, acc' = acc ++ new ∧ (∀ p ∈ new, Good p) ∧ (new.map fun p => (partText p).size + 1).sum ≤ l.length - i + 1 ∧ (l[i]? = some 32 ∨ l.length ≤ i → (new.map fun p => (partText p).size + 1).sum ≤ l.length - i)
 | 0, acc, i, acc', hn, h => by
  rw [parse_end (by omega)] at h
  cases h
  exact ⟨[], by simp, by simp, by simp, by simp⟩
 | n + 1, acc, i, acc', hn, h => by
  rcases Nat.lt_or_ge i l.length with hi | hi
  ·rw [parse_at hi] at h
   split at h
   ·rename_i hb
    obtain ⟨new, e, hg, h1, _⟩ := parse_cost hl n acc (i + 1) acc' (by omega) h
    exact ⟨new, e, hg, by omega, fun _ => by omega⟩
   ·rename_i hb
    cases hp : partAt l i with
    | inl a => rw [hp] at h; cases h
    | inr x =>
     obtain ⟨p, nx⟩ := x
     rw [hp] at h
     simp only at h
     obtain ⟨g1, g2⟩ := part_good hl hi hp
     have hnx := (partAt_lt hi).2 p nx hp
     split at h
     ·cases h
     ·rename_i hc
      obtain ⟨new, e, hg, h1, h2⟩ := parse_cost hl n (acc ++ [p]) nx acc' (by omega) h
      have h3 := h2 (by
       rcases Nat.lt_or_ge nx l.length with h5 | h5
       ·exact Or.inl (Classical.byContradiction fun hne => hc ⟨h5, hne⟩)
       ·exact Or.inr h5)
      refine ⟨p :: new, by rw [e, List.append_assoc]; rfl, fun q hq => ?_, ?_, fun h => ?_⟩
      ·rcases List.mem_cons.1 hq with rfl | hq
       ·exact g1
       ·exact hg q hq
      ·rw [List.map_cons, List.sum_cons]; omega
      ·rcases h with h | h
       ·exact absurd h hb
       ·omega
  ·rw [parse_end hi] at h
   cases h
   exact ⟨[], by simp, by simp, by simp, by simp⟩
theorem roundW_all {l : List know_Part} (h : ∀ p ∈ l, badP p = false ∧ p.words.any badW = false) : rangeB (roundW l) l.length 0 [] = some (.fin (l.map partText)) := by
 obtain ⟨t, h1, h2⟩ := rangeB_inv (R := ByteArray × Int) (b := roundW l) l.length (fun k t => t = (l.take k).map partText) (s := []) (by simp) (fun k t hk ht => by
  subst ht
  have hx : l[k]? = some l[k] := List.getElem?_eq_getElem hk
  have htk : l.take (k + 1) = l.take k ++ [l[k]] := by rw [List.take_add_one, hx]; rfl
  obtain ⟨g1, g2⟩ := h _ (List.getElem_mem hk)
  unfold roundW
  rw [idx_lt _ _ hk, Option.bind_some, g1, g2, htk, List.map_append]
  exact ⟨_, rfl, rfl⟩)
 rw [h1, h2, List.take_length]
theorem writes {q : know_Query} (h20 : q.parts.length ≤ 20) (hg : ∀ p ∈ q.parts, Good p) (hc : (q.parts.map fun p => (partText p).size + 1).sum ≤ 401) : ∃ t, know_QueryText q = some (t, 0) := by
 unfold know_QueryText
 rw [if_neg (by simp; omega)]
 obtain ⟨r1, a1, a2, a3⟩ := parts_loop q h20 (fun p hp => ⟨fun w hw => by have := (hg p hp).size w hw; omega, by have := (hg p hp).len; omega⟩) _ badP_prog know_Words know_Words_val
 rw [roundW_all fun p hp => ⟨(hg p hp).bad, (hg p hp).word⟩] at a2
 cases a2
 rw [a1]
 simp only [Option.bind_some, Lp.andThen_fin]
 obtain ⟨h1, h2⟩ := a3 _ rfl
 have hm : (1099700000000 + 1) * (q.parts.map partText).length ≤ 21994000000020 := by
  have := Nat.mul_le_mul_left (1099700000000 + 1) h1
  omega
 rw [join_some 1099700000000 1 _ _ h2 (by decide) (by omega) (by omega), Option.bind_some]
 have hj := join_sum (q.parts.map partText)
 rw [List.map_map] at hj
 change _ ≤ (q.parts.map fun p => (partText p).size + 1).sum ∧ (_ → _ = (q.parts.map fun p => (partText p).size + 1).sum) at hj
 have hle : (joinB (q.parts.map partText) ⟨#[32]⟩).size ≤ 400 := by
  by_cases he : q.parts.map partText = []
  ·have := hj.1
   rw [List.map_eq_nil_iff.1 he] at this ⊢
   exact Nat.le_trans this (by decide)
  ·have := hj.2 he
   omega
 rw [if_neg (by simp; omega)]
 exact ⟨_, rfl⟩
theorem reads_good (s : ByteArray) : ∃ q n c, know_ReadQuery s = some (q, n, c) ∧ (c = 0 → q.parts.length ≤ 20 ∧ (∀ p ∈ q.parts, Good p) ∧ ∃ t, know_QueryText q = some (t, 0)) := by
 by_cases hs : s.size ≤ 400
 ·rw [readQuery_val s hs]
  unfold read
  cases hp : parse s.data.toList [] 0 with
  | inl a => exact ⟨_, _, _, rfl, fun h => absurd h (by decide)⟩
  | inr acc =>
   simp only
   have hl := data_size s
   obtain ⟨new, e, hg, h1, _⟩ := parse_cost (l := s.data.toList) (by omega) _ [] 0 acc (Nat.le_refl _) hp
   rw [List.nil_append] at e
   subst e
   split
   ·exact ⟨_, _, _, rfl, fun h => absurd h (by decide)⟩
   ·exact ⟨_, _, _, rfl, fun _ => ⟨by simp only; omega, hg, writes (by simp only; omega) hg (by simp only; omega)⟩⟩
 ·unfold know_ReadQuery
  rw [if_pos (by simp; omega)]
  exact ⟨_, _, _, rfl, fun h => absurd h (by decide)⟩
end Go.Proofs.YtjdjmddclfhpeaaGreatDoor.M
namespace Go.Proofs.YtjdjmddclfhpeaaGreatDoor.M
open Go Go.Pu
set_option linter.unusedSimpArgs false
set_option linter.unusedVariables false
theorem rangeB_ok {R : Type} {b : Nat → Unit → Option (Ctl Unit R)} {n : Nat} (h : ∀ k, k < n → b k () = some (.nx ())) : rangeB b n 0 () = some (.fin ()) := by
 obtain ⟨t, h1, _⟩ := rangeB_inv (b := b) n (fun _ _ => True) (s := ()) trivial (fun k s hk _ => ⟨(), h k hk, trivial⟩)
 exact h1
theorem words_half (s : ByteArray) : 2 * (stemsL s).length ≤ s.size + 1 := by
 unfold stemsL
 rw [List.length_map]
 have h1 := wordsF_cost s.data.toList.length s.data.toList
 change ((wordsL s.data.toList).map fun s => s.size + 1).sum ≤ _ at h1
 rw [data_size] at h1
 have h2 : ∀ ws : List ByteArray, (∀ w ∈ ws, Word w) → 2 * ws.length ≤ (ws.map fun s => s.size + 1).sum := by
  intro ws
  induction ws with
  | nil => intro _; simp
  | cons w ws ih =>
   intro h
   have h3 := ih fun v hv => h v (List.mem_cons_of_mem _ hv)
   have h4 := (h w List.mem_cons_self).size.1
   rw [List.length_cons, List.map_cons, List.sum_cons]
   omega
 have h3 := h2 (wordsL s.data.toList) fun w hw => words_word hw
 omega
theorem within_ok {n a b : Int} (h1 : a ≤ n) (h2 : n ≤ b) : (!(know_within n a b)) = false := by
 unfold know_within
 simp
 omega
theorem ahead_ok {l : List Int} {k : Nat} (hk : k < l.length) (hl : l.length ≤ 1000000) (v : Int) (h : ∀ a, 0 < k → l[k - 1]? = some a → a < v) :
  (if (decide ((0 : Int) < (k : Int))) = true then (Option.bind (idx l (w64 ((k : Int) - 1))) fun x => some (decide (v ≤ x))) else (some false)) = some false := by
 by_cases h0 : 0 < k
 ·have e : w64 ((k : Int) - 1) = ((k - 1 : Nat) : Int) := by rw [w64_id (by omega) (by omega)]; omega
  have hk1 : l[k - 1]? = some (l[k - 1]'(by omega)) := List.getElem?_eq_getElem (by omega)
  rw [if_pos (by simpa using h0), e, idx_nat, hk1, Option.bind_some]
  have := h _ h0 hk1
  congr 1
  rw [decide_eq_false_iff_not]
  omega
 ·rw [if_neg (by simpa using h0)]
theorem positions_ok {l : List Int} (hr : l.Pairwise (· < ·)) (hl : l.length ≤ 1000000) {size : Int} (hs : 0 ≤ size ∧ size ≤ 20000) (h : ∀ v ∈ l, 0 ≤ v ∧ v < size) : know_checkPositions l size = some 0 := by
 unfold know_checkPositions
 generalize hb1 : (fun (k6 : Nat) (_ : Unit) => _) = b1
 have e1 : rangeB b1 l.length 0 () = some (.fin ()) := by
  refine rangeB_ok fun k hk => ?_
  subst hb1
  have hv := h _ (List.getElem_mem hk)
  simp only
  rw [idx_lt _ _ hk, Option.bind_some, w64_id (by omega) (by omega), if_neg (by rw [within_ok hv.1 (by omega)]; exact Bool.false_ne_true)]
 rw [e1]
 simp only [Option.bind_some, Lp.andThen_fin]
 generalize hb2 : (fun (k32 : Nat) (_ : Unit) => _) = b2
 have e2 : rangeB b2 l.length 0 () = some (.fin ()) := by
  refine rangeB_ok fun k hk => ?_
  subst hb2
  simp only
  rw [idx_lt _ _ hk, Option.bind_some, ahead_ok hk hl _ fun a h0 ha => ?_, Option.bind_some, if_neg Bool.false_ne_true]
  obtain ⟨hk1, rfl⟩ := List.getElem?_eq_some_iff.1 ha
  exact List.pairwise_iff_getElem.1 hr _ _ _ _ (by omega)
 rw [e2]
 rfl
structure Made (l : List know_Entry) (x : know_Index) : Prop where
 len : l.length ≤ 200
 rise : l.Pairwise fun a b => a.id_ < b.id_
 range : ∀ v ∈ l, 1 ≤ v.id_ ∧ v.id_ ≤ 3000000
 size : ∀ v ∈ l, v.title.size ≤ 200 ∧ v.body.size ≤ 20000
 ids : x.ids = l.map (·.id_)
 sizes : x.sizes = l.map sizeOfE
 terms : Terms (anyS l) (lstOf l) x.terms
 few : x.terms.length ≤ 20200 * l.length
theorem sizeE_le {v : know_Entry} (h : v.title.size ≤ 200 ∧ v.body.size ≤ 20000) : 0 ≤ sizeOfE v ∧ sizeOfE v ≤ 20000 := by
 unfold sizeOfE
 have := words_half v.title
 have := words_half v.body
 omega
theorem Made.ids_rise {l : List know_Entry} {x : know_Index} (h : Made l x) : rising x.ids := by
 rw [h.ids]
 intro i j a b hij ha hb
 obtain ⟨hi, rfl⟩ := List.getElem?_eq_some_iff.1 ha
 obtain ⟨hj, rfl⟩ := List.getElem?_eq_some_iff.1 hb
 simp only [List.getElem_map]
 exact List.pairwise_iff_getElem.1 h.rise i j _ _ hij
theorem Made.word {l : List know_Entry} {x : know_Index} (h : Made l x) {t : know_Term} (ht : t ∈ x.terms) : Word t.word := by
 obtain ⟨v, hv, hs⟩ := ((h.terms.mem t).1 ht).1
 rcases (hasS_iff v t.word).1 hs with h1 | h1 <;> exact stems_word h1
theorem Made.post {l : List know_Entry} {x : know_Index} (h : Made l x) {t : know_Term} (ht : t ∈ x.terms) {p : know_Posting} (hp : p ∈ t.list_) : ∃ v ∈ l, hasS v t.word ∧ p = postOf v t.word := by
 rw [((h.terms.mem t).1 ht).2] at hp
 unfold lstOf pairsOf at hp
 rw [List.map_map] at hp
 obtain ⟨v, hv, rfl⟩ := List.mem_map.1 hp
 obtain ⟨h1, h2⟩ := List.mem_filter.1 hv
 exact ⟨v, h1, by simpa using h2, rfl⟩
theorem Made.small {l : List know_Entry} {x : know_Index} (h : Made l x) : Small x := by
 have hl := h.len
 refine ⟨by have := h.few; omega, fun t ht => by have := (h.word ht).size; omega, fun t ht => ?_, fun t ht p hp => ?_⟩
 ·rw [((h.terms.mem t).1 ht).2]
  have := lst_len l t.word
  omega
 ·obtain ⟨v, hv, _, rfl⟩ := h.post ht hp
  unfold postOf postAt
  have hsz := h.size v hv
  have h1 := pos_len (stemsL v.title) t.word (stemsL v.title).length
  have h2 := pos_len (stemsL v.body) t.word (stemsL v.body).length
  have h3 := words_half v.title
  have h4 := words_half v.body
  exact ⟨by simp only; omega, by simp only; omega⟩
theorem Made.term_ok {l : List know_Entry} {x : know_Index} (h : Made l x) {t : know_Term} (ht : t ∈ x.terms) : know_Index_checkTerm x t = some 0 := by
 have hll : t.list_.length ≤ 200 := by
  rw [((h.terms.mem t).1 ht).2]
  have := lst_len l t.word
  have := h.len
  omega
 have hlr : t.list_.Pairwise fun a b : know_Posting => a.id_ < b.id_ := by
  rw [((h.terms.mem t).1 ht).2]
  exact lst_rise h.rise t.word
 have hil : x.ids.length ≤ 200 := by rw [h.ids, List.length_map]; exact h.len
 unfold know_Index_checkTerm
 generalize hb : (fun (k29 : Nat) (s35 : Int) => _) = b
 obtain ⟨t', h1, _⟩ := rangeB_inv (b := b) t.list_.length (fun k s => (k = 0 → s = 0) ∧ ∀ p, 0 < k → t.list_[k - 1]? = some p → s = p.id_) (s := 0) ⟨fun _ => rfl, fun p h => absurd h (Nat.lt_irrefl _)⟩ (by
  rintro k s hk ⟨i1, i2⟩
  subst hb
  simp only
  have hpk : t.list_[k]? = some t.list_[k] := List.getElem?_eq_getElem hk
  obtain ⟨v, hv, hs, hp⟩ := h.post ht (List.getElem_mem hk)
  have hgt : s < t.list_[k].id_ := by
   rcases Nat.eq_zero_or_pos k with h0 | h0
   ·rw [i1 h0, hp]
    have := (h.range v hv).1
    show 0 < v.id_
    omega
   ·rw [i2 _ h0 (List.getElem?_eq_getElem (by omega))]
    exact List.pairwise_iff_getElem.1 hlr _ _ _ _ (by omega)
  rw [idx_lt _ _ hk, Option.bind_some]
  generalize t.list_[k] = p at hpk hp hgt
  subst hp
  obtain ⟨a, b1, b2, _⟩ := bsearch_val (l := x.ids) (by omega) h.ids_rise (postOf v t.word).id_
  have hin : (postOf v t.word).id_ ∈ x.ids := by rw [h.ids]; exact List.mem_map.2 ⟨v, hv, rfl⟩
  obtain ⟨c1, _⟩ := b2 hin
  rw [b1, Option.bind_some]
  simp only [hin, decide_true, Bool.not_true, Bool.false_eq_true, if_false]
  rw [if_neg (show ¬ (decide ((postOf v t.word).id_ ≤ s) = true) by rw [decide_eq_true_eq]; omega)]
  have hav : l[a]? = some v := by
   rw [h.ids, List.getElem?_map] at c1
   cases hla : l[a]? with
   | none => rw [hla] at c1; cases c1
   | some u =>
    rw [hla] at c1
    have e : u.id_ = v.id_ := Option.some.inj c1
    obtain ⟨ha, rfl⟩ := List.getElem?_eq_some_iff.1 hla
    obtain ⟨j, hj, rfl⟩ := List.mem_iff_getElem.1 hv
    rcases Nat.lt_trichotomy a j with h5 | h5 | h5
    ·have := List.pairwise_iff_getElem.1 h.rise a j ha hj h5; omega
    ·subst h5; rfl
    ·have := List.pairwise_iff_getElem.1 h.rise j a hj ha h5; omega
  have hz : idx x.sizes (a : Int) = some (sizeOfE v) := by rw [idx_nat, h.sizes, List.getElem?_map, hav]; rfl
  have hsz := h.size v hv
  have hsE := sizeE_le hsz
  have w1 := words_half v.title
  have w2 := words_half v.body
  have p1 := pos_len (stemsL v.title) t.word (stemsL v.title).length
  have p2 := pos_len (stemsL v.body) t.word (stemsL v.body).length
  have t1 : know_checkPositions (postOf v t.word).title (sizeOfE v) = some 0 := positions_ok (pos_rise _ _ _) (by show (pos _ _ _).length ≤ _; omega) hsE fun n hn => by
   obtain ⟨i, rfl, hi, _⟩ := pos_bnd hn
   unfold sizeOfE
   omega
  have t2 : know_checkPositions (postOf v t.word).body (sizeOfE v) = some 0 := positions_ok (pos_rise _ _ _) (by show (pos _ _ _).length ≤ _; omega) hsE fun n hn => by
   obtain ⟨i, rfl, hi, _⟩ := pos_bnd hn
   unfold sizeOfE
   omega
  have hne : ¬ ((w64 (((postOf v t.word).title.length : Int) + ((postOf v t.word).body.length : Int))) == 0) = true := by
   have q1 : (postOf v t.word).title.length = (pos (stemsL v.title) t.word (stemsL v.title).length).length := rfl
   have q2 : (postOf v t.word).body.length = (pos (stemsL v.body) t.word (stemsL v.body).length).length := rfl
   rw [w64_id (by omega) (by omega), beq_iff_eq]
   intro e0
   refine hs ⟨?_, ?_⟩ <;> exact List.eq_nil_of_length_eq_zero (by omega)
  rw [if_neg hne, hz, Option.bind_some, t1, Option.bind_some, t2, Option.bind_some, or_er, Option.bind_some]
  refine ⟨_, rfl, fun h => by omega, fun q _ hq => ?_⟩
  rw [Nat.add_sub_cancel, hpk] at hq
  cases hq
  rfl)
 rw [h1]
 rfl
theorem Made.check {l : List know_Entry} {x : know_Index} (h : Made l x) : know_CheckIndex x = some 0 := by
 have hil : x.ids.length = l.length := by rw [h.ids, List.length_map]
 have hsl : x.sizes.length = l.length := by rw [h.sizes, List.length_map]
 have hl := h.len
 unfold know_CheckIndex
 rw [if_neg (by simp; omega), if_neg (by simp; omega)]
 generalize hb1 : (fun (k35 : Nat) (_ : Unit) => _) = b1
 have e1 : rangeB b1 x.ids.length 0 () = some (.fin ()) := by
  refine rangeB_ok fun k hk => ?_
  subst hb1
  simp only
  have hkl : k < l.length := by omega
  have hx : x.ids[k] = l[k].id_ := by simp only [h.ids, List.getElem_map]
  have hz : x.sizes[k]'(by omega) = sizeOfE l[k] := by simp only [h.sizes, List.getElem_map]
  have hr := h.range _ (List.getElem_mem hkl)
  have hsz := sizeE_le (h.size _ (List.getElem_mem hkl))
  have hah := ahead_ok hk (by omega) x.ids[k] fun a h0 ha => by
   exact h.ids_rise (k - 1) k a _ (by omega) ha (List.getElem?_eq_getElem hk)
  rw [idx_lt _ _ hk, Option.bind_some, if_neg (by rw [hx, within_ok hr.1 hr.2]; exact Bool.false_ne_true), hah, Option.bind_some, if_neg Bool.false_ne_true, idx_lt x.sizes k (by omega), Option.bind_some, if_neg (by rw [hz, within_ok hsz.1 hsz.2]; exact Bool.false_ne_true)]
 rw [e1]
 simp only [Option.bind_some, Lp.andThen_fin]
 generalize hb2 : (fun (k85 : Nat) (_ : Unit) => _) = b2
 have e2 : rangeB b2 x.terms.length 0 () = some (.fin ()) := by
  refine rangeB_ok fun k hk => ?_
  subst hb2
  simp only
  have hsm := h.small
  have htm := List.getElem_mem hk
  have htk : x.terms[k]? = some x.terms[k] := List.getElem?_eq_getElem hk
  have hw := h.word htm
  have hto := h.term_ok htm
  have hne : x.terms[k].list_ ≠ [] := by
   rw [((h.terms.mem _).1 htm).2]
   intro e
   obtain ⟨v, hv, hs⟩ := ((h.terms.mem _).1 htm).1
   have : (v.id_, postOf v x.terms[k].word) ∈ pairsOf l x.terms[k].word := List.mem_map.2 ⟨v, List.mem_filter.2 ⟨hv, by simpa using hs⟩, rfl⟩
   have h2 : (pairsOf l x.terms[k].word).map (·.2) = [] := e
   rw [List.map_eq_nil_iff] at h2
   rw [h2] at this
   cases this
  have hlt : ∀ (h0 : 0 < k), cmpS (x.terms[k - 1]'(by omega)).word x.terms[k].word < 0 := fun h0 => List.pairwise_iff_getElem.1 h.terms.rise (k - 1) k (by omega) hk (by omega)
  rw [idx_lt _ _ hk, Option.bind_some]
  generalize x.terms[k] = t at *
  rw [know_Words_val _ (by have := hw.size; omega), Option.bind_some, hw.one]
  have i0 : idx ([t.word] : List ByteArray) 0 = some t.word := rfl
  have q1 : (if ((([t.word] : List ByteArray).length : Int) != 1) = true then (some true) else (Option.bind (idx ([t.word] : List ByteArray) 0) fun x133 => some (!(strEq x133 t.word)))) = some false := by
   rw [if_neg (by simp), i0, Option.bind_some, strEq_self]
   rfl
  rw [q1, Option.bind_some]
  have q2 : ((t.list_.length : Int) == 0) = false := by
   rw [beq_eq_false_iff_ne]
   intro e
   exact hne (List.eq_nil_of_length_eq_zero (by omega))
  rw [q2, if_neg (by decide)]
  have q3 : (if (decide ((0 : Int) < (k : Int))) = true then (Option.bind (idx x.terms (w64 ((k : Int) - 1))) fun x156 => some (strLt t.word x156.word || strEq t.word x156.word)) else (some false)) = some false := by
   by_cases h0 : 0 < k
   ·have e : w64 ((k : Int) - 1) = ((k - 1 : Nat) : Int) := by have := hsm.terms; rw [w64_id (by omega) (by omega)]; omega
    rw [if_pos (by simpa using h0), e, idx_lt _ _ (by omega), Option.bind_some]
    have := hlt h0
    generalize (x.terms[k - 1]'(by omega)).word = u at this
    rw [strLt_cmp, strEq_cmp]
    congr 1
    rw [Bool.or_eq_false_iff, decide_eq_false_iff_not, decide_eq_false_iff_not]
    refine ⟨fun h5 => ?_, fun h5 => ?_⟩
    ·rw [cmpS_swap] at h5; omega
    ·rw [h5, cmpS_self] at this; omega
   ·rw [if_neg (by simpa using h0)]
  rw [q3, Option.bind_some, if_neg Bool.false_ne_true, hto, Option.bind_some, if_neg (by decide)]
 rw [e2]
 rfl
theorem makes {l : List know_Entry} (hlen : l.length ≤ 200) (hrise : l.Pairwise fun a b => a.id_ < b.id_) (hrange : ∀ v ∈ l, 1 ≤ v.id_ ∧ v.id_ ≤ 3000000) (htext : ∀ v ∈ l, textBad v = 0) : ∃ x, know_NewIndex l = some (x, 0) ∧ Made l x := by
 obtain ⟨x, c, h1, h2, _, h3⟩ := new_val l hlen
 have h0 : ∀ k, badAt l k = 0 := fun k => by
  rcases Nat.lt_or_ge k l.length with hk | hk
  ·unfold badAt
   rw [List.getElem?_eq_getElem hk]
   simp only
   have hr := hrange _ (List.getElem_mem hk)
   rw [if_neg (by omega), if_neg]
   ·exact htext _ (List.getElem_mem hk)
   ·rintro ⟨u, hu, hle⟩
    rcases Nat.eq_zero_or_pos k with rfl | hp
    ·simp at hu
    ·obtain ⟨j, rfl⟩ : ∃ j, k = j + 1 := ⟨k - 1, by omega⟩
     rw [last_take (by omega)] at hu
     have hu2 : l[j] = u := by simpa using hu
     rw [← hu2] at hle
     have := List.pairwise_iff_getElem.1 hrise j (j + 1) (by omega) hk (by omega)
     omega
  ·exact badAt_out hk
 have hc : c = 0 := h2.uniq (Or.inl ⟨rfl, h0⟩)
 subst hc
 obtain ⟨T, rfl, h4, h5⟩ := h3 rfl
 exact ⟨_, h1, hlen, hrise, hrange, fun v hv => textBad_size (htext v hv), rfl, rfl, h4, h5⟩
end Go.Proofs.YtjdjmddclfhpeaaGreatDoor.M
namespace Go.Proofs.YtjdjmddclfhpeaaGreatDoor.M
open Go Go.Pu
set_option linter.unusedSimpArgs false
set_option linter.unusedVariables false
theorem slice_sub {α : Type} {s r : List α} {lo hi : Option Int} (h : sliceL s lo hi = some r) : r.Sublist s := by
 unfold sliceL at h
 cases hb : bounds s.length lo hi with
 | none => rw [hb] at h; cases h
 | some p =>
  rw [hb] at h
  cases h
  exact (List.drop_sublist _ _).trans (List.take_sublist _ _)
theorem ranked_sub {l R : List know_Hit} {most : Int} (h : know_ranked l most = some R) : (∀ x ∈ R, x ∈ l) ∧ R.length ≤ l.length := by
 unfold know_ranked at h
 obtain ⟨x1, h1, h⟩ := Option.bind_eq_some_iff.1 h
 obtain ⟨x2, h2, h⟩ := Option.bind_eq_some_iff.1 h
 obtain ⟨x3, h3, h⟩ := Option.bind_eq_some_iff.1 h
 cases h
 have e := (sortFuncL_some h1).2
 have hs := slice_sub h2
 unfold slices_Clone_Lknow_Hit_know_Hit appendL at h3
 split at h3
 ·rw [Option.bind_some, List.nil_append] at h3
  cases h3
  refine ⟨fun x hx => ?_, ?_⟩
  ·have := hs.subset hx
   rw [e] at this
   exact List.mem_mergeSort.1 this
  ·have := hs.length_le
   rw [e, List.length_mergeSort] at this
   exact this
 ·cases h3
def Hits (x : know_Index) (k : Nat) (H : List know_Hit) : Prop := (∀ h ∈ H, h.id_ ∈ x.ids) ∧ H.length ≤ k
theorem Hits.add {x : know_Index} {k : Nat} {H H' : List know_Hit} (h : Hits x k H) {id sc : Int} (hid : id ∈ x.ids) (ha : appendL 8796093022208 H [(⟨id, sc⟩ : know_Hit)] = some H') : Hits x (k + 1) H' := by
 unfold appendL at ha
 split at ha
 ·cases ha
  refine ⟨fun y hy => ?_, by rw [List.length_append, List.length_singleton]; have := h.2; omega⟩
  rcases List.mem_append.1 hy with h1 | h1
  ·exact h.1 y h1
  ·rw [List.mem_singleton.1 h1]; exact hid
 ·cases ha
theorem Hits.more {x : know_Index} {k : Nat} {H : List know_Hit} (h : Hits x k H) : Hits x (k + 1) H := ⟨h.1, Nat.le_succ_of_le h.2⟩
theorem good_sizes {q : know_Query} (hg : ∀ p ∈ q.parts, Good p) : sizesOk q := fun p hp => ⟨fun w hw => by have := (hg p hp).size w hw; omega, by have := (hg p hp).len; omega⟩
theorem search_hits {l : List know_Entry} {x : know_Index} (hm : Made l x) {q : know_Query} (hg : ∀ p ∈ q.parts, Good p) {t : ByteArray} (ht : know_QueryText q = some (t, 0)) : ∃ H, know_Search x q 100 = some (H, 0) ∧ Hits x 200 H := by
 have hlen : x.ids.length ≤ 200 := by rw [hm.ids, List.length_map]; exact hm.len
 obtain ⟨r, hr, _⟩ := search_eq x hm.small q (good_sizes hg) 100
 refine ⟨r.1, ?_⟩
 suffices hs : r.2 = 0 ∧ Hits x 200 r.1 by
  rw [hr, ← hs.1]
  exact ⟨rfl, hs.2⟩
 unfold know_Search at hr
 rw [hm.check, Option.bind_some, if_neg (by decide), ht, Option.bind_some, if_neg (show ¬ (((0 : Int) != 0) = true) by decide), if_neg (by decide)] at hr
 obtain ⟨b, hb, hr⟩ := Option.bind_eq_some_iff.1 hr
 split at hr
 ·cases hr
  exact ⟨rfl, fun h hh => (by cases hh), Nat.zero_le _⟩
 obtain ⟨o1, ho1, hr⟩ := Option.bind_eq_some_iff.1 hr
 obtain ⟨_, n2⟩ := rangeB_part q.parts.length (fun _ _ => True) (fun _ => False) trivial (fun k s c _ _ hc => by
  obtain ⟨_, _, hc⟩ := Option.bind_eq_some_iff.1 hc
  obtain ⟨_, _, hc⟩ := Option.bind_eq_some_iff.1 hc
  obtain ⟨_, _, hc⟩ := Option.bind_eq_some_iff.1 hc
  cases hc
  exact ⟨fun _ _ => trivial, fun _ _ => trivial, fun r e => by cases e⟩) ho1
 cases o1 with
 | rt y => exact (n2 y rfl).elim
 | fin NL =>
 rw [Lp.andThen_fin] at hr
 obtain ⟨o2, ho2, hr⟩ := Option.bind_eq_some_iff.1 hr
 obtain ⟨n3, n4⟩ := rangeB_part x.ids.length (fun k s => Hits x k s) (fun _ => False) ⟨fun h hh => (by cases hh), Nat.le_refl _⟩ (fun k s c hk hI hc => by
  obtain ⟨s1, h1, hc⟩ := Option.bind_eq_some_iff.1 hc
  cases hc
  refine ⟨fun t e => ?_, fun t e => (by cases e), fun r e => by cases e⟩
  cases e
  obtain ⟨id, hid, h1⟩ := Option.bind_eq_some_iff.1 h1
  obtain ⟨o3, ho3, h1⟩ := Option.bind_eq_some_iff.1 h1
  cases o3 with
  | rt y => exact y.elim
  | fin s204 =>
  rw [Lp.andThen_fin] at h1
  obtain ⟨s347, h5, h1⟩ := Option.bind_eq_some_iff.1 h1
  cases h1
  split at h5
  ·obtain ⟨y, hy, h5⟩ := Option.bind_eq_some_iff.1 h5
   cases h5
   exact hI.add (idx_mem hid) hy
  ·cases h5
   exact hI.more) ho2
 cases o2 with
 | rt y => exact (n4 y rfl).elim
 | fin H =>
 rw [Lp.andThen_fin] at hr
 obtain ⟨R, hR, hr⟩ := Option.bind_eq_some_iff.1 hr
 cases hr
 obtain ⟨r1, r2⟩ := ranked_sub hR
 obtain ⟨g1, g2⟩ := n3 H rfl
 exact ⟨rfl, fun h hh => g1 h (r1 h hh), by simp only; omega⟩
theorem suggest_hits {l : List know_Entry} {x : know_Index} (hm : Made l x) {text : ByteArray} (ht : text.size ≤ 20000) : ∃ H, know_Suggest x text [] 100 = some (H, 0) ∧ Hits x 200 H := by
 have hlen : x.ids.length ≤ 200 := by rw [hm.ids, List.length_map]; exact hm.len
 obtain ⟨r, hr, _⟩ := suggest_eq x hm.small text [] 100
 refine ⟨r.1, ?_⟩
 suffices hs : r.2 = 0 ∧ Hits x 200 r.1 by
  rw [hr, ← hs.1]
  exact ⟨rfl, hs.2⟩
 unfold know_Suggest at hr
 rw [hm.check, Option.bind_some, if_neg (by decide), if_neg (by simp; omega), if_neg (by decide)] at hr
 obtain ⟨W, _, hr⟩ := Option.bind_eq_some_iff.1 hr
 obtain ⟨N, _, hr⟩ := Option.bind_eq_some_iff.1 hr
 obtain ⟨S, _, hr⟩ := Option.bind_eq_some_iff.1 hr
 obtain ⟨T, _, hr⟩ := Option.bind_eq_some_iff.1 hr
 obtain ⟨o2, ho2, hr⟩ := Option.bind_eq_some_iff.1 hr
 obtain ⟨n3, n4⟩ := rangeB_part x.ids.length (fun k s => Hits x k s) (fun _ => False) ⟨fun h hh => (by cases hh), Nat.le_refl _⟩ (fun k s c hk hI hc => by
  obtain ⟨s1, h1, hc⟩ := Option.bind_eq_some_iff.1 hc
  cases hc
  refine ⟨fun t e => ?_, fun t e => (by cases e), fun r e => by cases e⟩
  cases e
  obtain ⟨id, hid, h1⟩ := Option.bind_eq_some_iff.1 h1
  obtain ⟨o3, ho3, h1⟩ := Option.bind_eq_some_iff.1 h1
  cases o3 with
  | rt y => exact y.elim
  | fin s141 =>
  rw [Lp.andThen_fin] at h1
  obtain ⟨s225, _, h1⟩ := Option.bind_eq_some_iff.1 h1
  obtain ⟨s228, h5, h1⟩ := Option.bind_eq_some_iff.1 h1
  cases h1
  split at h5
  ·obtain ⟨y, hy, h5⟩ := Option.bind_eq_some_iff.1 h5
   cases h5
   exact hI.add (idx_mem hid) hy
  ·cases h5
   exact hI.more) ho2
 cases o2 with
 | rt y => exact (n4 y rfl).elim
 | fin H =>
 rw [Lp.andThen_fin] at hr
 obtain ⟨R, hR, hr⟩ := Option.bind_eq_some_iff.1 hr
 cases hr
 obtain ⟨r1, r2⟩ := ranked_sub hR
 obtain ⟨g1, g2⟩ := n3 H rfl
 exact ⟨rfl, fun h hh => g1 h (r1 h hh), by simp only; omega⟩
end Go.Proofs.YtjdjmddclfhpeaaGreatDoor.M
namespace Go.Proofs.YtjdjmddclfhpeaaGreatDoor.M
open Go Go.Pu
set_option linter.unusedSimpArgs false
set_option linter.unusedVariables false
theorem splitB_ne (sep : ByteArray) (save : Nat) : ∀ (k : Nat) (s : ByteArray), Go.Lib.splitB sep save k s ≠ []
 | 0, s => by simp [Go.Lib.splitB]
 | k + 1, s => by unfold Go.Lib.splitB; split <;> simp
theorem after_some (s : ByteArray) (h : s.size ≤ 4000000000) : ∃ l, strings_SplitAfter s (⟨#[10]⟩ : ByteArray) = some l ∧ l ≠ [] ∧ l.length ≤ s.size + 2 := by
 unfold strings_SplitAfter strings_genSplit
 have z : (⟨#[10]⟩ : ByteArray).size = 1 := rfl
 rw [if_pos ⟨by omega, by omega, by omega, by omega, rfl⟩]
 refine ⟨_, rfl, splitB_ne _ _ _ _, ?_⟩
 have := Go.Lib.splitB_length_le (⟨#[10]⟩ : ByteArray) (((⟨#[10]⟩ : ByteArray).size : Int)).toNat (min (Go.Lib.countB s (⟨#[10]⟩ : ByteArray) + 1) (s.size + 1) - 1) s
 omega
theorem lines_some (s : ByteArray) (h : s.size ≤ 20000) : ∃ l, know_lines s = some l := by
 obtain ⟨l, h1, h2, h3⟩ := after_some s (by omega)
 have hl : 0 < l.length := List.length_pos_iff.2 h2
 have hw : w64 ((l.length : Int) - 1) = ((l.length - 1 : Nat) : Int) := by rw [w64_id (by omega) (by omega)]; omega
 have hx : l[l.length - 1]? = some l[l.length - 1] := List.getElem?_eq_getElem (by omega)
 unfold know_lines
 simp only [h1, Option.bind_some, hw, idx_nat, hx, take_val l (l.length - 1) (by omega)]
 split <;> exact ⟨_, rfl⟩
def VerOk (v : know_Version) : Prop := textBad ⟨0, v.title, v.body⟩ = 0
theorem version_val (v : know_Version) (before : Int) : ∃ c, know_checkVersion v before = some c ∧ (c = 0 → VerOk v) := by
 unfold know_checkVersion
 split
 ·exact ⟨_, rfl, fun h => absurd h (by decide)⟩
 split
 ·exact ⟨_, rfl, fun h => absurd h (by decide)⟩
 have h12 : ∃ b : Bool, (if (decide ((v.body.size : Int) ≤ 20000)) = true then (Option.bind (know_lines v.body) fun x22 => some (decide ((2000 : Int) < (x22.length : Int)))) else (some false)) = some b := by
  split
  ·rename_i h
   obtain ⟨l, hl⟩ := lines_some v.body (by rw [decide_eq_true_eq] at h; omega)
   rw [hl]
   exact ⟨_, rfl⟩
  ·exact ⟨_, rfl⟩
 obtain ⟨b, hb⟩ := h12
 rw [hb, Option.bind_some]
 split
 ·exact ⟨_, rfl, fun h => absurd h (by decide)⟩
 have ht : know_checkText v.title v.body = some (textBad ⟨0, v.title, v.body⟩) := textBad_code ⟨0, v.title, v.body⟩
 rw [ht, Option.bind_some]
 split
 ·rename_i h
  exact ⟨_, rfl, fun h0 => h0⟩
 rename_i h
 have h0 : VerOk v := by
  unfold VerOk
  simpa using h
 split
 ·exact ⟨_, rfl, fun h => absurd h (by decide)⟩
 ·exact ⟨_, rfl, fun _ => h0⟩
structure ArtsOk (l : List know_Article) : Prop where
 len : l.length ≤ 200
 range : ∀ a ∈ l, 1 ≤ a.id_ ∧ a.id_ ≤ 3000000
 rise : l.Pairwise fun a b => a.id_ < b.id_
 vers : ∀ a ∈ l, a.versions.length ≤ 40
 text : ∀ a ∈ l, ∀ v ∈ a.versions, VerOk v
theorem within_cases (n a b : Int) : (!(know_within n a b)) = true ∨ ((!(know_within n a b)) = false ∧ a ≤ n ∧ n ≤ b) := by
 unfold know_within
 by_cases h1 : a ≤ n
 ·by_cases h2 : n ≤ b
  ·exact Or.inr ⟨by simp [h1, h2], h1, h2⟩
  ·exact Or.inl (by simp [h2])
 ·exact Or.inl (by simp [h1])
theorem rise_of {l : List know_Article} (h : ∀ (k : Nat) (a b : know_Article), l[k]? = some a → l[k + 1]? = some b → a.id_ < b.id_) : l.Pairwise fun a b => a.id_ < b.id_ := by
 refine List.pairwise_iff_getElem.2 fun i j hi hj hij => ?_
 obtain ⟨d, rfl⟩ : ∃ d, j = i + d + 1 := ⟨j - i - 1, by omega⟩
 clear hij
 induction d with
 | zero => exact h i _ _ (List.getElem?_eq_getElem hi) (List.getElem?_eq_getElem hj)
 | succ d ih =>
  have h1 := ih (by omega)
  have h2 := h (i + d + 1) _ _ (List.getElem?_eq_getElem (by omega)) (List.getElem?_eq_getElem hj)
  exact Int.lt_trans h1 h2
theorem articles_val (l : List know_Article) : ∃ c, know_CheckArticles l = some c ∧ (c = 0 → ArtsOk l) := by
 unfold know_CheckArticles
 by_cases h200 : 200 < l.length
 ·rw [if_pos (by simp; omega)]
  exact ⟨4, rfl, fun h => absurd h (by decide)⟩
 rw [if_neg (by simp; omega)]
 generalize hb1 : (fun (k7 : Nat) (_ : Unit) => _) = b1
 have key := rangeB_spec (body := b1) l.length (fun k _ => (∀ j a, j < k → l[j]? = some a → 1 ≤ a.id_ ∧ a.id_ ≤ 3000000 ∧ a.versions.length ≤ 40 ∧ ∀ v ∈ a.versions, VerOk v) ∧ ∀ j a b, j + 1 < k → l[j]? = some a → l[j + 1]? = some b → a.id_ < b.id_)
  (fun o => (∃ r : Int, o = .rt r ∧ r ≠ 0) ∨ (o = .fin () ∧ ArtsOk l)) (s := ()) ⟨fun j a h => absurd h (Nat.not_lt_zero _), fun j a b h => absurd h (Nat.not_lt_zero _)⟩ (by
  rintro k _ hk ⟨i1, i2⟩
  subst hb1
  simp only
  have hak : l[k]? = some l[k] := List.getElem?_eq_getElem hk
  rw [idx_lt _ _ hk, Option.bind_some]
  generalize l[k] = a at hak
  rcases within_cases a.id_ 1 3000000 with hw | ⟨hw, w1, w2⟩
  ·rw [if_pos hw]
   exact ⟨_, rfl, Or.inl ⟨2, rfl, by decide⟩⟩
  rw [if_neg (by rw [hw]; exact Bool.false_ne_true)]
  have h56 : ∃ b, (if (decide ((0 : Int) < (k : Int))) = true then (Option.bind (idx l (w64 ((k : Int) - 1))) fun x58 => some (decide (a.id_ ≤ x58.id_))) else (some false)) = some b ∧ (b = false → ∀ u, 0 < k → l[k - 1]? = some u → u.id_ < a.id_) := by
   by_cases h0 : 0 < k
   ·have e : w64 ((k : Int) - 1) = ((k - 1 : Nat) : Int) := by rw [w64_id (by omega) (by omega)]; omega
    have hk1 : l[k - 1]? = some (l[k - 1]'(by omega)) := List.getElem?_eq_getElem (by omega)
    rw [if_pos (by simpa using h0), e, idx_nat, hk1, Option.bind_some]
    refine ⟨_, rfl, fun hb u _ hu => ?_⟩
    cases hu
    rw [decide_eq_false_iff_not] at hb
    omega
   ·rw [if_neg (by simpa using h0)]
    exact ⟨_, rfl, fun _ u h => absurd h h0⟩
  obtain ⟨b, hb, hbo⟩ := h56
  rw [hb, Option.bind_some]
  cases b with
  | true =>
   rw [if_pos rfl]
   exact ⟨_, rfl, Or.inl ⟨5, rfl, by decide⟩⟩
  | false =>
  rw [if_neg Bool.false_ne_true]
  rcases within_cases a.group 0 40 with hg | ⟨hg, _, _⟩
  ·rw [if_pos hg]
   exact ⟨_, rfl, Or.inl ⟨2, rfl, by decide⟩⟩
  rw [if_neg (by rw [hg]; exact Bool.false_ne_true)]
  rcases within_cases (a.versions.length : Int) 1 40 with hv | ⟨hv, _, hv2⟩
  ·rw [if_pos hv]
   exact ⟨_, rfl, Or.inl ⟨4, rfl, by decide⟩⟩
  rw [if_neg (by rw [hv]; exact Bool.false_ne_true)]
  generalize hb2 : (fun (k81 : Nat) (s87 : Int) => _) = b2
  obtain ⟨o, ho, hq⟩ := rangeB_spec (body := b2) a.versions.length (fun k _ => ∀ j v, j < k → a.versions[j]? = some v → VerOk v) (fun o => (∃ r : Int, o = .rt r ∧ r ≠ 0) ∨ ((∃ t, o = .fin t) ∧ ∀ v ∈ a.versions, VerOk v)) (s := (0 : Int)) (fun j v h => absurd h (Nat.not_lt_zero _)) (by
   intro i s hi hI
   subst hb2
   simp only
   have hvi : a.versions[i]? = some a.versions[i] := List.getElem?_eq_getElem hi
   rw [idx_lt _ _ hi, Option.bind_some]
   generalize a.versions[i] = v at hvi
   obtain ⟨c, c1, c2⟩ := version_val v s
   rw [c1, Option.bind_some]
   by_cases hc : c = 0
   ·subst hc
    rw [if_neg (by decide)]
    refine ⟨_, rfl, fun j u hj hu => ?_⟩
    rcases Nat.lt_or_eq_of_le (Nat.le_of_lt_succ hj) with h | rfl
    ·exact hI j u h hu
    ·rw [hvi] at hu; cases hu; exact c2 rfl
   ·rw [if_pos (by simpa using hc)]
    exact ⟨_, rfl, Or.inl ⟨c, rfl, hc⟩⟩) (fun t hI => Or.inr ⟨⟨t, rfl⟩, fun v hv => by
   obtain ⟨j, hj⟩ := List.mem_iff_getElem?.1 hv
   exact hI j v (List.getElem?_eq_some_iff.1 hj).1 hj⟩)
  rw [ho]
  rcases hq with ⟨r, rfl, hr⟩ | ⟨⟨t, rfl⟩, hall⟩
  ·simp only [Option.bind_some, Lp.andThen_rt]
   exact ⟨_, rfl, Or.inl ⟨r, rfl, hr⟩⟩
  ·simp only [Option.bind_some, Lp.andThen_fin]
   refine ⟨_, rfl, fun j u hj hu => ?_, fun j u w hj hu hw => ?_⟩
   ·rcases Nat.lt_or_eq_of_le (Nat.le_of_lt_succ hj) with h | rfl
    ·exact i1 j u h hu
    ·rw [hak] at hu; cases hu
     exact ⟨w1, w2, by omega, hall⟩
   ·rcases Nat.lt_or_eq_of_le (Nat.le_of_lt_succ hj) with h | rfl
    ·exact i2 j u w h hu hw
    ·rw [hak] at hw; cases hw
     exact hbo rfl u (by omega) (by rw [Nat.add_sub_cancel]; exact hu)) (fun _ hI => Or.inr ⟨rfl, by omega, fun a ha => by
  obtain ⟨j, hj⟩ := List.mem_iff_getElem?.1 ha
  have := hI.1 j a (List.getElem?_eq_some_iff.1 hj).1 hj
  exact ⟨this.1, this.2.1⟩, rise_of fun k a b ha hb => hI.2 k a b (List.getElem?_eq_some_iff.1 hb).1 ha hb, fun a ha => by
  obtain ⟨j, hj⟩ := List.mem_iff_getElem?.1 ha
  exact (hI.1 j a (List.getElem?_eq_some_iff.1 hj).1 hj).2.2.1, fun a ha => by
  obtain ⟨j, hj⟩ := List.mem_iff_getElem?.1 ha
  exact (hI.1 j a (List.getElem?_eq_some_iff.1 hj).1 hj).2.2.2⟩)
 obtain ⟨o, ho, hq⟩ := key
 rw [ho]
 rcases hq with ⟨r, rfl, hr⟩ | ⟨rfl, hok⟩
 ·exact ⟨r, rfl, fun h => absurd h hr⟩
 ·exact ⟨0, rfl, fun _ => hok⟩
theorem contains_val (s : List Int) (v : Int) : slices_Contains_Lint_int s v = some (decide (v ∈ s)) := by
 unfold slices_Contains_Lint_int slices_Index_Lint_int
 obtain ⟨o, ho, hq⟩ := rangeB_spec (R := Int) (body := fun k6 (_ : Unit) => Option.bind (idx s (k6 : Int)) fun x21 => if (v == x21) = true then some (.rt (k6 : Int)) else some (.nx ())) s.length (fun k _ => ∀ j x, j < k → s[j]? = some x → x ≠ v) (fun o => (∃ k : Nat, o = .rt (k : Int) ∧ v ∈ s) ∨ (o = .fin () ∧ v ∉ s)) (s := ()) (fun j x h => absurd h (Nat.not_lt_zero _)) (by
  intro k _ hk hI
  have hx : s[k]? = some s[k] := List.getElem?_eq_getElem hk
  rw [idx_lt s k hk, Option.bind_some]
  by_cases hv : v = s[k]
  ·rw [if_pos (by simpa using hv)]
   exact ⟨_, rfl, Or.inl ⟨k, rfl, by rw [hv]; exact List.getElem_mem hk⟩⟩
  ·rw [if_neg (by simpa using hv)]
   refine ⟨_, rfl, fun j x hj hjx => ?_⟩
   rcases Nat.lt_or_eq_of_le (Nat.le_of_lt_succ hj) with h | rfl
   ·exact hI j x h hjx
   ·rw [hx] at hjx; cases hjx; exact fun e => hv e.symm) (fun _ hI => Or.inr ⟨rfl, fun hm => by
  obtain ⟨j, hj⟩ := List.mem_iff_getElem?.1 hm
  exact hI j v (List.getElem?_eq_some_iff.1 hj).1 hj rfl⟩)
 rw [ho]
 rcases hq with ⟨k, rfl, h⟩ | ⟨rfl, h⟩
 ·simp [Lp.andThen, h]
 ·simp [Lp.andThen, h]
def lastAt (vs : List know_Version) (m : Int) : Nat → Int
 | 0 => -1
 | n + 1 => match vs[n]? with
  | some v => if v.at_ ≤ m then (n : Int) else lastAt vs m n
  | none => lastAt vs m n
theorem lastAt_range (vs : List know_Version) (m : Int) : ∀ n, lastAt vs m n = -1 ∨ ∃ (k : Nat) (v : know_Version), lastAt vs m n = (k : Int) ∧ vs[k]? = some v
 | 0 => .inl rfl
 | n + 1 => by
  unfold lastAt
  split
  ·rename_i v hv
   split
   ·exact .inr ⟨n, v, rfl, hv⟩
   ·exact lastAt_range vs m n
  ·exact lastAt_range vs m n
theorem last_loop (vs : List know_Version) (m : Int) : rangeB (R := Empty) (fun k70 s76 => Option.bind (Option.bind (idx vs (k70 : Int)) fun x97 => Option.bind (if (decide (x97.at_ ≤ m)) = true then some (k70 : Int) else some s76) fun s112 => some s112) fun s90 => some (.nx s90)) vs.length 0 (-1) = some (.fin (lastAt vs m vs.length)) := by
 obtain ⟨t, h1, h2⟩ := rangeB_inv (R := Empty) (b := fun k70 s76 => Option.bind (Option.bind (idx vs (k70 : Int)) fun x97 => Option.bind (if (decide (x97.at_ ≤ m)) = true then some (k70 : Int) else some s76) fun s112 => some s112) fun s90 => some (.nx s90)) vs.length (fun k s => s = lastAt vs m k) (s := (-1 : Int)) rfl (fun k s hk hs => by
  subst hs
  have hx : vs[k]? = some vs[k] := List.getElem?_eq_getElem hk
  generalize vs[k] = v at hx
  refine ⟨lastAt vs m (k + 1), ?_, rfl⟩
  rw [idx_nat, hx]
  conv => rhs; rw [lastAt, hx]
  by_cases h : v.at_ ≤ m
  ·simp [h]
  ·simp [h])
 rw [h1, h2]
def entOf (groups : List Int) (m : Int) (a : know_Article) : Option know_Entry :=
 if a.group ∈ groups then
  match a.versions[(lastAt a.versions m a.versions.length).toNat]? with
  | some v => if lastAt a.versions m a.versions.length < 0 ∨ strEq v.title ⟨#[]⟩ = true then none else some ⟨a.id_, v.title, v.body⟩
  | none => none
 else none
theorem current_val (l : List know_Article) (groups : List Int) (m : Int) (hl : l.length ≤ 200) : ∃ vs, know_current l m (fun y24 => know_Current_1 y24 groups) = some (l.filterMap (entOf groups m), vs) := by
 unfold know_current
 generalize hb : (fun (k6 : Nat) (s16 : List know_Entry × List know_Version) => _) = b
 obtain ⟨t, h1, h2, h3, h4⟩ := rangeB_inv (b := b) l.length (fun k s => s.1 = (l.take k).filterMap (entOf groups m) ∧ s.1.length ≤ k ∧ s.2.length ≤ k) (s := (([] : (List know_Entry)), ([] : (List know_Version)))) ⟨by simp, Nat.zero_le _, Nat.zero_le _⟩ (by
  rintro k ⟨E, V⟩ hk ⟨i1, i2, i3⟩
  subst hb
  simp only at i1 i2 i3 ⊢
  have hak : l[k]? = some l[k] := List.getElem?_eq_getElem hk
  have htk : l.take (k + 1) = l.take k ++ [l[k]] := by rw [List.take_add_one, hak]; rfl
  rw [idx_lt _ _ hk, Option.bind_some, htk, List.filterMap_append, ← i1]
  generalize l[k] = a
  have hc : know_Current_1 a.group groups = some (decide (a.group ∈ groups)) := by
   unfold know_Current_1
   rw [contains_val, Option.bind_some]
  rw [last_loop, Option.bind_some, Lp.andThen_fin, hc, Option.bind_some]
  have hE : ∀ (e : know_Entry), appendL 3518437208883 E [e] = some (E ++ [e]) := fun e => by
   unfold appendL; rw [if_pos (by rw [List.length_singleton]; omega)]
  have hV : ∀ (e : know_Version), appendL 3518437208883 V [e] = some (V ++ [e]) := fun e => by
   unfold appendL; rw [if_pos (by rw [List.length_singleton]; omega)]
  by_cases hin : a.group ∈ groups
  ·rcases lastAt_range a.versions m a.versions.length with hr | ⟨j, v, hr, hv⟩
   ·have e0 : entOf groups m a = none := by
     unfold entOf
     rw [if_pos hin, hr]
     split <;> simp
    rw [hr, if_pos (by simp), Option.bind_some, if_pos rfl, Option.bind_some]
    refine ⟨_, rfl, ?_, by simp only; omega, by simp only; omega⟩
    simp [e0]
   ·rw [hr, if_neg (by simp [hin]), idx_nat, hv, Option.bind_some, Option.bind_some]
    cases hs : strEq v.title ⟨#[]⟩ with
    | true =>
     have e0 : entOf groups m a = none := by
      unfold entOf
      rw [if_pos hin, hr, Int.toNat_natCast, hv]
      simp [hs]
     rw [if_pos rfl, Option.bind_some]
     refine ⟨_, rfl, ?_, by simp only; omega, by simp only; omega⟩
     simp [e0]
    | false =>
     have e0 : entOf groups m a = some ⟨a.id_, v.title, v.body⟩ := by
      unfold entOf
      rw [if_pos hin, hr, Int.toNat_natCast, hv]
      simp [hs]
     rw [if_neg Bool.false_ne_true, Option.bind_some, hE, Option.bind_some, hV]
     refine ⟨_, rfl, ?_, by simp only [List.length_append, List.length_singleton]; omega, by simp only [List.length_append, List.length_singleton]; omega⟩
     simp [e0]
  ·have e0 : entOf groups m a = none := by
    unfold entOf
    rw [if_neg hin]
   rw [if_pos (by simp [hin]), Option.bind_some, if_pos rfl, Option.bind_some]
   refine ⟨_, rfl, ?_, by simp only; omega, by simp only; omega⟩
   simp [e0])
 rw [h1, Option.bind_some, Lp.andThen_fin, h2, List.take_length]
 exact ⟨_, rfl⟩
theorem entOf_some {groups : List Int} {m : Int} {a : know_Article} {e : know_Entry} (h : entOf groups m a = some e) : e.id_ = a.id_ ∧ ∃ v ∈ a.versions, e.title = v.title ∧ e.body = v.body := by
 unfold entOf at h
 split at h
 ·split at h
  ·rename_i v hv
   split at h
   ·cases h
   ·cases h
    exact ⟨rfl, v, List.mem_of_getElem? hv, rfl, rfl⟩
  ·cases h
 ·cases h
theorem current_good {l : List know_Article} (hl : ArtsOk l) (groups : List Int) (m : Int) : (l.filterMap (entOf groups m)).length ≤ 200 ∧ ((l.filterMap (entOf groups m)).Pairwise fun a b => a.id_ < b.id_) ∧ (∀ v ∈ l.filterMap (entOf groups m), 1 ≤ v.id_ ∧ v.id_ ≤ 3000000) ∧ ∀ v ∈ l.filterMap (entOf groups m), textBad v = 0 := by
 refine ⟨Nat.le_trans (List.length_filterMap_le _ _) hl.len, ?_, fun v hv => ?_, fun v hv => ?_⟩
 ·rw [List.pairwise_filterMap]
  refine hl.rise.imp fun {a b} h x hx y hy => ?_
  rw [(entOf_some hx).1, (entOf_some hy).1]
  exact h
 ·obtain ⟨a, ha, he⟩ := List.mem_filterMap.1 hv
  rw [(entOf_some he).1]
  exact hl.range a ha
 ·obtain ⟨a, ha, he⟩ := List.mem_filterMap.1 hv
  obtain ⟨_, w, hw, e1, e2⟩ := entOf_some he
  have h := hl.text a ha w hw
  unfold VerOk textBad at h
  unfold textBad
  rw [e1, e2]
  exact h
end Go.Proofs.YtjdjmddclfhpeaaGreatDoor.M
namespace Go.Proofs.YtjdjmddclfhpeaaGreatDoor.M
open Go Go.Pu
set_option linter.unusedSimpArgs false
set_option linter.unusedVariables false
theorem awake : porttop_awakeKnow = some true := by
 have hw : Word (⟨#[97]⟩ : ByteArray) := ⟨by simp, by simp, fun b hb => by
  have : b = 97 := by simpa using hb
  subst this
  decide⟩
 unfold porttop_awakeKnow
 rw [know_Words_val _ (by rw [sz1]; decide), Option.bind_some, hw.one]
 rfl
def chg (groups : List Int) (m : Int) (other : ByteArray) (a : know_Article) : know_Article := if a.group ∈ groups then a else { a with versions := [⟨m, ⟨#[116]⟩, other⟩] }
theorem chg_ent (groups : List Int) (m : Int) (other : ByteArray) (a : know_Article) : entOf groups m (chg groups m other a) = entOf groups m a := by
 unfold chg
 split
 ·rfl
 ·rename_i h
  unfold entOf
  rw [if_neg h, if_neg h]
theorem clone_val (l : List know_Article) (h : l.length ≤ 200) : slices_Clone_Lknow_Article_know_Article l = some l := by
 unfold slices_Clone_Lknow_Article_know_Article appendL
 rw [if_pos (by simp; omega)]
 rfl
theorem current_is {l : List know_Article} {groups : List Int} {m : Int} (hc : know_CheckArticles l = some 0) (hl : l.length ≤ 200) (hm : 0 ≤ m ∧ m ≤ 3000000) (hg : groups.length ≤ 41) : know_Current l groups m = some (l.filterMap (entOf groups m), 0) := by
 unfold know_Current
 obtain ⟨vs, hv⟩ := current_val l groups m hl
 rw [hc, Option.bind_some, if_neg (by decide), if_neg (by rw [within_ok hm.1 hm.2]; exact Bool.false_ne_true), if_neg (by simp; omega), hv, Option.bind_some]
theorem concat_val (H G : List know_Hit) (hH : H.length ≤ 200) (hG : G.length ≤ 200) : slices_Concat_Lknow_Hit_know_Hit [H, G] = some (H ++ G) := by
 unfold slices_Concat_Lknow_Hit_know_Hit
 have i0 : idx [H, G] ((0 : Nat) : Int) = some H := rfl
 have i1 : idx [H, G] ((0 + 1 : Nat) : Int) = some G := rfl
 have w1 : w64 (0 + (H.length : Int)) = (H.length : Int) := by rw [w64_id (by omega) (by omega)]; omega
 have w2 : w64 ((H.length : Int) + (G.length : Int)) = (H.length : Int) + (G.length : Int) := w64_id (by omega) (by omega)
 have n1 : ¬ (decide ((H.length : Int) < 0) = true) := by rw [decide_eq_true_eq]; omega
 have n2 : ¬ (decide ((H.length : Int) + (G.length : Int) < 0) = true) := by rw [decide_eq_true_eq]; omega
 have hg : slices_Grow_Lknow_Hit_know_Hit (α := know_Hit) ((H.length : Int) + (G.length : Int)) = some [] := by
  unfold slices_Grow_Lknow_Hit_know_Hit
  rw [if_pos (by omega)]
 have a1 : appendL 8796093022208 [] H = some H := by
  unfold appendL
  rw [if_pos (by simp; omega)]
  rfl
 have a2 : appendL 8796093022208 H G = some (H ++ G) := by
  unfold appendL
  rw [if_pos (by omega)]
 simp only [List.length_cons, List.length_nil, rangeB, i0, i1, Option.bind_some, w1, w2, if_neg n1, if_neg n2, Lp.andThen_fin, hg, a1, a2]
theorem has_entry (E : List know_Entry) (h : know_Hit) (hm : h.id_ ∈ E.map (·.id_)) : slices_ContainsFunc_Lknow_Entry_know_Entry E (fun y387 => porttop_TopFound_1 y387 h) = some true := by
 unfold slices_ContainsFunc_Lknow_Entry_know_Entry slices_IndexFunc_Lknow_Entry_know_Entry
 obtain ⟨o, ho, hq⟩ := rangeB_spec (R := Int) (body := fun k6 (_ : Unit) => Option.bind (idx E (k6 : Int)) fun x25 => Option.bind (porttop_TopFound_1 x25 h) fun x30 => if x30 = true then some (.rt (k6 : Int)) else some (.nx ())) E.length (fun k _ => ∀ j v, j < k → E[j]? = some v → v.id_ ≠ h.id_) (fun o => ∃ k : Nat, o = .rt (k : Int)) (s := ()) (fun j x h => absurd h (Nat.not_lt_zero _)) (by
  intro k _ hk hI
  have hx : E[k]? = some E[k] := List.getElem?_eq_getElem hk
  rw [idx_lt E k hk, Option.bind_some]
  unfold porttop_TopFound_1
  rw [Option.bind_some]
  by_cases hv : E[k].id_ = h.id_
  ·rw [if_pos (by simpa using hv)]
   exact ⟨_, rfl, k, rfl⟩
  ·rw [if_neg (by simpa using hv)]
   refine ⟨_, rfl, fun j x hj hjx => ?_⟩
   rcases Nat.lt_or_eq_of_le (Nat.le_of_lt_succ hj) with h | rfl
   ·exact hI j x h hjx
   ·rw [hx] at hjx; cases hjx; exact hv) (fun _ hI => by
  obtain ⟨v, hv, e⟩ := List.mem_map.1 hm
  obtain ⟨j, hj⟩ := List.mem_iff_getElem?.1 hv
  exact absurd e (hI j v (List.getElem?_eq_some_iff.1 hj).1 hj))
 rw [ho]
 obtain ⟨k, rfl⟩ := hq
 simp [Lp.andThen]
theorem found_true (l : List know_Article) (groups : List Int) (m : Int) (other query text : ByteArray) : porttop_TopFound l groups m other query text = some true := by
 unfold porttop_TopFound
 obtain ⟨q, n, c, hq, hgood⟩ := reads_good query
 obtain ⟨c1, hc1, hok⟩ := articles_val l
 rw [awake, Option.bind_some, if_neg (by decide), hq, Option.bind_some, hc1, Option.bind_some]
 split
 ·rfl
 rename_i hcond
 simp only [Bool.or_eq_true, bne_iff_ne, decide_eq_true_eq, not_or, Decidable.not_not] at hcond
 obtain ⟨⟨⟨⟨⟨rfl, hc0⟩, hm1⟩, hm2⟩, hg⟩, ht⟩ := hcond
 have hc0' : c = 0 := hc0
 subst hc0'
 obtain ⟨h20, hgs, tx, htx⟩ := hgood rfl
 have hl := hok rfl
 have hlen := hl.len
 rw [clone_val l hlen, Option.bind_some]
 rw [rangeB_map l (chg groups m other) _ (fun k s x hk hsl hx => by
  simp only
  have hk' : k < s.length := by omega
  rw [idx_nat, hx, Option.bind_some, contains_val, Option.bind_some]
  unfold chg
  by_cases hin : x.group ∈ groups
  ·rw [if_neg (by simp [hin]), if_pos hin, set_self hx]
   rfl
  ·rw [if_pos (by simp [hin]), if_neg hin, setI_nat hk']
   rfl), Option.bind_some, Lp.andThen_fin]
 obtain ⟨c2, hc2, _⟩ := articles_val (l.map (chg groups m other))
 rw [hc2, Option.bind_some]
 by_cases h2 : c2 = 0
 rotate_left
 ·rw [if_pos (by simpa using h2)]
 subst h2
 rw [if_neg (by decide)]
 have k1 := current_is hc1 hlen ⟨by omega, by omega⟩ (by omega : groups.length ≤ 41) (m := m)
 have k2 := current_is hc2 (by rw [List.length_map]; exact hlen) ⟨by omega, by omega⟩ (by omega : groups.length ≤ 41) (m := m)
 have hE : (l.map (chg groups m other)).filterMap (entOf groups m) = l.filterMap (entOf groups m) := by
  rw [List.filterMap_map]
  congr 1
  funext a
  exact chg_ent groups m other a
 rw [hE] at k2
 obtain ⟨g1, g2, g3, g4⟩ := current_good hl groups m
 generalize l.filterMap (entOf groups m) = E at k1 k2 g1 g2 g3 g4
 obtain ⟨x, hx, hm⟩ := makes g1 g2 g3 g4
 obtain ⟨H, hH, hH1, hH2⟩ := search_hits hm hgs htx
 obtain ⟨G, hG, hG1, hG2⟩ := suggest_hits hm (text := text) (by omega)
 have hcat := concat_val H G hH2 hG2
 have hall : ∀ h ∈ H ++ G, h.id_ ∈ E.map (·.id_) := fun h hh => by
  rw [← hm.ids]
  rcases List.mem_append.1 hh with h1 | h1
  ·exact hH1 h h1
  ·exact hG1 h h1
 generalize hb : (fun (k174 : Nat) (s180 : List (List know_Hit) × List (List know_Hit)) => _) = b
 have round : ∀ (k : Nat) (A B : List (List know_Hit)), k < 2 → A.length = 2 → B.length = 2 → b k (A, B) = some (.nx (A.set k H, B.set k G)) := by
  intro k A B hk hA hB
  subst hb
  simp only
  have hlk : ∃ lk, idx ([l, l.map (chg groups m other)] : List (List know_Article)) (k : Int) = some lk ∧ know_Current lk groups m = some (E, 0) := by
   obtain rfl | rfl : k = 0 ∨ k = 1 := by omega
   ·exact ⟨_, rfl, k1⟩
   ·exact ⟨_, rfl, k2⟩
  obtain ⟨lk, e1, e2⟩ := hlk
  have sA : setI A (k : Int) H = some (A.set k H) := setI_nat (by omega)
  have sB : setI B (k : Int) G = some (B.set k G) := setI_nat (by omega)
  have iA : idx (A.set k H) (k : Int) = some H := by rw [idx_lt _ _ (by rw [List.length_set]; omega), List.getElem_set_self]
  have iB : idx (B.set k G) (k : Int) = some G := by rw [idx_lt _ _ (by rw [List.length_set]; omega), List.getElem_set_self]
  have hloop : rangeB (R := Bool) (fun k354 (_ : Unit) => Option.bind (idx (H ++ G) (k354 : Int)) fun x373 => Option.bind (slices_ContainsFunc_Lknow_Entry_know_Entry E (fun y387 => porttop_TopFound_1 y387 x373)) fun x388 => if (!x388) = true then some (.rt false) else some (.nx ())) (H ++ G).length 0 () = some (.fin ()) := rangeB_ok fun j hj => by
   rw [idx_lt _ _ hj, Option.bind_some, has_entry E _ (hall _ (List.getElem_mem hj)), Option.bind_some, if_neg (by decide)]
  rw [e1, Option.bind_some, e2, Option.bind_some, if_neg (show ¬ (((0 : Int) != 0) = true) by decide), hx, Option.bind_some, if_neg (show ¬ (((0 : Int) != 0) = true) by decide)]
  simp only
  rw [hH, Option.bind_some, idx_lt A k (by omega), Option.bind_some, sA, Option.bind_some, if_neg (show ¬ (((0 : Int) != 0) = true) by decide), hG, Option.bind_some, idx_lt B k (by omega), Option.bind_some, sB, Option.bind_some, if_neg (show ¬ (((0 : Int) != 0) = true) by decide), iA, Option.bind_some, iB, Option.bind_some, hcat, Option.bind_some, hloop]
  rfl
 have hfin : rangeB b (([l, l.map (chg groups m other)] : List (List know_Article)).length) 0 (([[], []] : List (List know_Hit)), ([[], []] : List (List know_Hit))) = some (.fin ([H, H], [G, G])) := by
  show rangeB b 2 0 _ = _
  rw [rangeB, round 0 _ _ (by omega) rfl rfl]
  simp only
  rw [rangeB, round 1 _ _ (by omega) rfl rfl]
  rfl
 rw [hfin, Option.bind_some, Lp.andThen_fin]
 have j0 : ∀ X : List know_Hit, idx [X, X] (0 : Int) = some X := fun X => rfl
 have j1 : ∀ X : List know_Hit, idx [X, X] (1 : Int) = some X := fun X => rfl
 simp only [j0, j1, Option.bind_some, equal_hits, if_true]
end Go.Proofs.YtjdjmddclfhpeaaGreatDoor.M
