/-
  Words of a text: plain part.
-/
import Derived.Test.YtebhdihfjeiadaaGreatDoorKnowWordsWrdLow
namespace Go.Proofs.YtebhdihfjeiadaaGreatDoor.M
open Go Go.Pu
set_option linter.unusedSimpArgs false
set_option linter.unusedVariables false

theorem data_size (s : ByteArray) : s.data.toList.length = s.size := by
  show s.data.toList.length = s.data.size
  simp
theorem idxS_list (s : ByteArray) (k : Nat) : idxS s (k : Int) = s.data.toList[k]? := by
  simp only [idxS, Int.natCast_nonneg, if_true, Int.toNat_natCast]
  show s.data[k]? = _
  simp
theorem sliceS_nat (s : ByteArray) (a b : Nat) (h1 : a ≤ b) (h2 : b ≤ s.size) : sliceS s (some (a : Int)) (some (b : Int)) = some (s.extract a b) := by
  unfold sliceS bounds
  simp only [Option.getD_some]
  rw [if_pos (by omega)]
  simp
theorem sliceS_from (s : ByteArray) (a : Nat) (h1 : a ≤ s.size) : sliceS s (some (a : Int)) none = some (s.extract a s.size) := by
  unfold sliceS bounds
  simp only [Option.getD_some, Option.getD_none]
  rw [if_pos (by omega)]
  simp
theorem extract_list (s : ByteArray) (a b : Nat) : (s.extract a b).data.toList = (s.data.toList.drop a).take (b - a) := by
  rw [ByteArray.data_extract]
  simp [List.extract]

/-- the end of a word that begins at i -/
def runE (l : List UInt8) (i : Nat) : Nat := i + ((l.drop i).takeWhile wb).length
theorem runE_ge (l : List UInt8) (i : Nat) : i ≤ runE l i := Nat.le_add_right ..
theorem runE_le (l : List UInt8) (i : Nat) (h : i ≤ l.length) : runE l i ≤ l.length := by
  unfold runE
  have := (List.takeWhile_sublist (p := wb) (l := l.drop i)).length_le
  rw [List.length_drop] at this
  omega
theorem runE_stop {l : List UInt8} {i : Nat} (h : ∀ b, l[i]? = some b → wb b = false) : runE l i = i := by
  unfold runE
  cases hd : l.drop i with
  | nil => rfl
  | cons b t =>
    have : l[i]? = some b := by have := List.getElem?_drop (xs := l) (i := i) (j := 0); rw [hd] at this; simpa using this.symm
    rw [List.takeWhile_cons, h b this]
    rfl
theorem runE_step {l : List UInt8} {i : Nat} {b : UInt8} (h : l[i]? = some b) (hw : wb b = true) : runE l i = runE l (i + 1) := by
  obtain ⟨hi, rfl⟩ := List.getElem?_eq_some_iff.1 h
  unfold runE
  rw [List.drop_eq_getElem_cons hi, List.takeWhile_cons, if_pos hw]
  simp
  omega
theorem runE_end {l : List UInt8} {i : Nat} {b : UInt8} (h : l[runE l i]? = some b) : wb b = false := by
  have key : ∀ (m : List UInt8), ∀ c, m[(m.takeWhile wb).length]? = some c → wb c = false := by
    intro m
    induction m with
    | nil => intro c h; simp at h
    | cons a m ih =>
      intro c h
      cases ha : wb a with
      | false => rw [List.takeWhile_cons, ha] at h; simp at h; subst h; exact ha
      | true => rw [List.takeWhile_cons, ha] at h; simp at h; exact ih c h
  exact key (l.drop i) b (by rw [List.getElem?_drop]; exact h)
/-- the loop that looks for the end of a word -/
theorem run_loop {R : Type} (s : ByteArray) (hs : s.size ≤ 4611686018427387904) (p : Int → Bool) (hp : ∀ b : UInt8, p (b.toNat : Int) = wb b) (i : Nat) (hi : i ≤ s.size) :
    whileB (R := R) (fun s33 => Option.bind (if (decide (s33 < (s.size : Int))) = true then (Option.bind (idxS s s33) fun x44 => some (p (x44.toNat : Int))) else (some false)) fun s43 => if s43 = true then some (.nx (w64 (s33 + 1))) else some (.bk s33)) (i : Int) = some (.fin ((runE s.data.toList i : Nat) : Int)) := by
  suffices hx : ∃ r, whileB (R := R) (fun s33 => Option.bind (if (decide (s33 < (s.size : Int))) = true then (Option.bind (idxS s s33) fun x44 => some (p (x44.toNat : Int))) else (some false)) fun s43 => if s43 = true then some (.nx (w64 (s33 + 1))) else some (.bk s33)) (i : Int) = some r ∧ r = .fin ((runE s.data.toList i : Nat) : Int) by
    obtain ⟨r, h, hr⟩ := hx
    rw [h, hr]
  refine whileB_spec (R := R) (body := fun s33 => Option.bind (if (decide (s33 < (s.size : Int))) = true then (Option.bind (idxS s s33) fun x44 => some (p (x44.toNat : Int))) else (some false)) fun s43 => if s43 = true then some (.nx (w64 (s33 + 1))) else some (.bk s33)) (s := (i : Int))
    (fun t => ∃ j : Nat, t = (j : Int) ∧ i ≤ j ∧ j ≤ s.size ∧ runE s.data.toList j = runE s.data.toList i) (fun t => s.size - t.toNat) (fun r => r = .fin ((runE s.data.toList i : Nat) : Int)) ⟨i, rfl, Nat.le_refl _, hi, rfl⟩ ?_
  rintro _ ⟨j, rfl, h1, h2, h3⟩
  by_cases hj : j < s.size
  · have hb := List.getElem?_eq_getElem (l := s.data.toList) (i := j) (by rw [data_size]; exact hj)
    rw [if_pos (by simp; omega), idxS_list, hb]
    simp only [Option.bind_some, hp]
    cases hw : wb (s.data.toList[j]'(by rw [data_size]; exact hj)) with
    | true =>
      refine ⟨_, if_pos rfl, ⟨j + 1, ?_, by omega, by omega, ?_⟩, ?_⟩
      · rw [w64_id (by omega) (by omega)]; omega
      · rw [← runE_step hb hw, h3]
      · rw [w64_id (by omega) (by omega)]; omega
    | false =>
      refine ⟨_, if_neg (by decide), ?_⟩
      have := runE_stop (l := s.data.toList) (i := j) fun b h => by rw [hb] at h; cases h; exact hw
      rw [← h3, this]
  · rw [if_neg (by simp; omega)]
    refine ⟨_, rfl, ?_⟩
    have := runE_stop (l := s.data.toList) (i := j) fun b h => by rw [List.getElem?_eq_none (by rw [data_size]; omega)] at h; cases h
    rw [← h3, this]
def lowL (w : List UInt8) : ByteArray := ⟨(w.map low8).toArray⟩
/-- the words of a text -/
def headW (l : List UInt8) : List ByteArray := if l.takeWhile wb ≠ [] ∧ (l.takeWhile wb).length ≤ 30 then [lowL (l.takeWhile wb)] else []
def wordsF : Nat → List UInt8 → List ByteArray
  | 0, _ => []
  | n + 1, l => if l = [] then [] else headW l ++ wordsF n (l.drop ((l.takeWhile wb).length + 1))
def wordsL (l : List UInt8) : List ByteArray := wordsF l.length l
theorem wordsF_eq : ∀ (n m : Nat) (l : List UInt8), l.length ≤ n → l.length ≤ m → wordsF n l = wordsF m l
  | 0, 0, _, _, _ => rfl
  | 0, m + 1, l, h, _ => by obtain rfl : l = [] := List.eq_nil_of_length_eq_zero (by omega); rfl
  | n + 1, 0, l, _, h => by obtain rfl : l = [] := List.eq_nil_of_length_eq_zero (by omega); rfl
  | n + 1, m + 1, l, h1, h2 => by
    rw [wordsF, wordsF]
    by_cases hl : l = []
    · rw [if_pos hl, if_pos hl]
    · have h0 : 0 < l.length := by cases l <;> simp_all
      rw [if_neg hl, if_neg hl, wordsF_eq n m _ (by simp; omega) (by simp; omega)]
theorem wordsL_nil : wordsL [] = [] := rfl
theorem wordsL_eq {l : List UInt8} (h : l ≠ []) : wordsL l = headW l ++ wordsL (l.drop ((l.takeWhile wb).length + 1)) := by
  unfold wordsL
  have h0 : 0 < l.length := by cases l <;> simp_all
  obtain ⟨n, hn⟩ : ∃ n, l.length = n + 1 := ⟨l.length - 1, by omega⟩
  rw [hn, wordsF, if_neg h]
  congr 1
  refine wordsF_eq _ _ _ (by simp; omega) (by simp)
theorem wordsL_skip {b : UInt8} {l : List UInt8} (h : wb b = false) : wordsL (b :: l) = wordsL l := by
  rw [wordsL_eq (by simp)]
  have : (b :: l).takeWhile wb = [] := by rw [List.takeWhile_cons, h]; rfl
  rw [headW, this]
  simp
theorem wordsF_length : ∀ (n : Nat) (l : List UInt8), (wordsF n l).length ≤ l.length
  | 0, l => by simp [wordsF]
  | n + 1, l => by
    rw [wordsF]
    by_cases hl : l = []
    · rw [if_pos hl]; simp
    · rw [if_neg hl, List.length_append]
      have h1 := wordsF_length n (l.drop ((l.takeWhile wb).length + 1))
      rw [List.length_drop] at h1
      have h2 : (headW l).length ≤ 1 := by unfold headW; split <;> simp
      have h0 : 0 < l.length := by cases l <;> simp_all
      omega
theorem wordsL_at (l : List UInt8) (i : Nat) (h : i < l.length) : wordsL (l.drop i) = headW (l.drop i) ++ wordsL (l.drop (runE l i + 1)) := by
  rw [wordsL_eq (by intro e; have := congrArg List.length e; simp at this; omega), List.drop_drop]
  rfl
/-- the round's word -/
theorem head_round (s : ByteArray) (i : Nat) (hi : i ≤ s.size) : headW (s.data.toList.drop i) = if i < runE s.data.toList i ∧ runE s.data.toList i - i ≤ 30 then [lowB (s.extract i (runE s.data.toList i))] else [] := by
  have e : (s.extract i (runE s.data.toList i)).data.toList = (s.data.toList.drop i).takeWhile wb := by
    rw [extract_list]
    have : runE s.data.toList i - i = ((s.data.toList.drop i).takeWhile wb).length := by unfold runE; omega
    rw [this]
    exact (List.prefix_iff_eq_take.1 (List.takeWhile_prefix wb)).symm
  unfold headW lowB
  rw [e]
  by_cases h : (s.data.toList.drop i).takeWhile wb = []
  · rw [if_neg (fun hh => hh.1 h), if_neg]
    unfold runE
    rw [h]
    simp
  · have h0 : 0 < ((s.data.toList.drop i).takeWhile wb).length := by rcases hh : (s.data.toList.drop i).takeWhile wb with _ | _ <;> simp_all
    by_cases h2 : ((s.data.toList.drop i).takeWhile wb).length ≤ 30
    · rw [if_pos ⟨h, h2⟩, if_pos (by unfold runE; omega)]; rfl
    · rw [if_neg (fun hh => h2 hh.2), if_neg (by unfold runE; omega)]
theorem runE_size (s : ByteArray) (i : Nat) (hi : i ≤ s.size) : runE s.data.toList i ≤ s.size := by
  have := runE_le s.data.toList i (by rw [data_size]; exact hi)
  rwa [data_size] at this
theorem words_round (s : ByteArray) (hs : s.size ≤ 8796093022208) (lo : ByteArray → Option ByteArray) (hlo : ∀ s : ByteArray, s.size ≤ 9223372036854775807 → lo s = some (lowB s)) (acc : List ByteArray) (i : Nat) (hi : i < s.size) (ha : acc.length ≤ i) :
    (if ((decide ((i : Int) < ((runE s.data.toList i : Nat) : Int))) && (decide ((w64 (((runE s.data.toList i : Nat) : Int) - (i : Int))) ≤ 30))) = true then Option.bind (sliceS s (some (i : Int)) (some ((runE s.data.toList i : Nat) : Int))) fun x62 => Option.bind (lo x62) fun x63 => Option.bind (appendL 8796093022208 acc ([x63] : List ByteArray)) fun x73 => some x73 else some acc) = some (acc ++ headW (s.data.toList.drop i)) := by
  have hr := runE_size s i (by omega)
  have hg := runE_ge s.data.toList i
  rw [head_round s i (by omega), w64_id (by omega) (by omega)]
  by_cases h : i < runE s.data.toList i ∧ runE s.data.toList i - i ≤ 30
  · rw [if_pos (by simp; omega), if_pos h, sliceS_nat s _ _ hg hr, Option.bind_some, hlo _ (by rw [ByteArray.size_extract]; omega)]
    simp only [Option.bind_some]
    unfold appendL
    rw [if_pos (by simp; omega)]
    rfl
  · rw [if_neg (by simp; omega), if_neg h, List.append_nil]
theorem know_Words_val (s : ByteArray) (hs : s.size ≤ 8796093022208) : know_Words s = some (wordsL s.data.toList) := by
  unfold know_Words
  generalize hbody : (fun s12 : List ByteArray × Int => _) = body
  suffices hx : ∃ r, whileB body (([] : List ByteArray), (0 : Int)) = some r ∧ ∃ t, r = .fin t ∧ t.1 = wordsL s.data.toList by
    obtain ⟨r, h, t, rfl, hr⟩ := hx
    rw [h, Option.bind_some]
    show some t.1 = _
    rw [hr]
  refine whileB_spec (body := body) (s := (([] : List ByteArray), (0 : Int)))
    (fun t => ∃ i : Nat, t.2 = (i : Int) ∧ i ≤ s.size + 1 ∧ t.1.length ≤ i ∧ t.1 ++ wordsL (s.data.toList.drop i) = wordsL s.data.toList) (fun t => s.size + 2 - t.2.toNat) (fun r => ∃ t, r = .fin t ∧ t.1 = wordsL s.data.toList) ⟨0, rfl, by omega, by simp, by simp⟩ ?_
  rintro ⟨acc, _⟩ ⟨i, rfl, h1, h2, h3⟩
  subst hbody
  simp only at h2 h3 ⊢
  by_cases hi : i < s.size
  · rw [if_pos (by simp; omega), run_loop s (by omega) know_inWord inWord_wb i (by omega), Option.bind_some, Lp.andThen_fin, words_round s hs know_lower know_lower_val acc i hi h2, Option.bind_some]
    have hr := runE_size s i (by omega)
    have hg := runE_ge s.data.toList i
    refine ⟨_, rfl, ⟨runE s.data.toList i + 1, by rw [w64_id (by omega) (by omega)]; omega, by omega, ?_, ?_⟩, ?_⟩
    · rw [List.length_append]
      have : (headW (s.data.toList.drop i)).length ≤ 1 := by unfold headW; split <;> simp
      omega
    · rw [List.append_assoc, ← wordsL_at _ _ (by rw [data_size]; exact hi)]; exact h3
    · simp only; rw [w64_id (by omega) (by omega)]; omega
  · rw [if_neg (by simp; omega)]
    refine ⟨_, rfl, _, rfl, ?_⟩
    rw [List.drop_eq_nil_of_le (by rw [data_size]; omega), wordsL_nil, List.append_nil] at h3
    exact h3
theorem portref2_WordsOf_val (s : ByteArray) (hs : s.size ≤ 8796093022208) : portref2_WordsOf s = some (wordsL s.data.toList) := by
  unfold portref2_WordsOf
  generalize hbody : (fun s12 : List ByteArray × Int => _) = body
  suffices hx : ∃ r, whileB body (([] : List ByteArray), (0 : Int)) = some r ∧ ∃ t, r = .fin t ∧ t.1 = wordsL s.data.toList by
    obtain ⟨r, h, t, rfl, hr⟩ := hx
    rw [h, Option.bind_some]
    show some t.1 = _
    rw [hr]
  refine whileB_spec (body := body) (s := (([] : List ByteArray), (0 : Int)))
    (fun t => ∃ i : Nat, t.2 = (i : Int) ∧ i ≤ s.size + 1 ∧ t.1.length ≤ i ∧ t.1 ++ wordsL (s.data.toList.drop i) = wordsL s.data.toList) (fun t => s.size + 2 - t.2.toNat) (fun r => ∃ t, r = .fin t ∧ t.1 = wordsL s.data.toList) ⟨0, rfl, by omega, by simp, by simp⟩ ?_
  rintro ⟨acc, _⟩ ⟨i, rfl, h1, h2, h3⟩
  subst hbody
  simp only at h2 h3 ⊢
  by_cases hi : i < s.size
  · rw [if_pos (by simp; omega), run_loop s (by omega) portref2_isWordByte (fun _ => rfl) i (by omega), Option.bind_some, Lp.andThen_fin, words_round s hs portref2_lower portref2_lower_val acc i hi h2, Option.bind_some]
    have hr := runE_size s i (by omega)
    have hg := runE_ge s.data.toList i
    have hh : (headW (s.data.toList.drop i)).length ≤ 1 := by unfold headW; split <;> simp
    have hw := wordsL_at s.data.toList i (by rw [data_size]; exact hi)
    rw [w64_id (n := (i : Int) + 1) (by omega) (by omega)]
    by_cases hj : i < runE s.data.toList i
    · refine ⟨_, rfl, ⟨runE s.data.toList i, by simp only; rw [if_neg (by omega)], by omega, ?_, ?_⟩, ?_⟩
      · rw [List.length_append]; omega
      · rw [← h3, hw, List.append_assoc]
        congr 2
        by_cases hn : runE s.data.toList i < s.size
        · have hb := List.getElem?_eq_getElem (l := s.data.toList) (i := runE s.data.toList i) (by rw [data_size]; exact hn)
          rw [List.drop_eq_getElem_cons (by rw [data_size]; exact hn), wordsL_skip (runE_end hb)]
        · rw [List.drop_eq_nil_of_le (by rw [data_size]; omega), List.drop_eq_nil_of_le (by rw [data_size]; omega)]
      · simp only; rw [if_neg (by omega)]; omega
    · have he : runE s.data.toList i = i := by omega
      refine ⟨_, rfl, ⟨i + 1, by simp only; rw [if_pos (by omega)]; omega, by omega, ?_, ?_⟩, ?_⟩
      · rw [List.length_append]; omega
      · rw [← h3, hw, List.append_assoc, he]
      · simp only; rw [if_pos (by omega)]; omega
  · rw [if_neg (by simp; omega)]
    refine ⟨_, rfl, _, rfl, ?_⟩
    rw [List.drop_eq_nil_of_le (by rw [data_size]; omega), wordsL_nil, List.append_nil] at h3
    exact h3
end Go.Proofs.YtebhdihfjeiadaaGreatDoor.M
