/-
  Words, Stem, Links and Quote agree with their references: plain part.
-/
import Derived.Test.YtebhdihfjeiadaaGreatDoorKnowWordsKwRef
import Derived.Test.YtebhdihfjeiadaaGreatDoorKnowWordsKnwStem
namespace Go.Proofs.YtebhdihfjeiadaaGreatDoor.M
open Go Go.Pu
set_option linter.unusedSimpArgs false
set_option linter.unusedVariables false

theorem equalStr_self (l : List ByteArray) : slices_Equal_Lstring_string l l = some true := by
  unfold slices_Equal_Lstring_string
  rw [if_neg (by simp)]
  obtain ⟨u, h, _⟩ := rangeB_inv (R := Bool) (b := fun k7 (_ : Unit) => Option.bind (idx l (k7 : Int)) fun x26 => Option.bind (idx l (k7 : Int)) fun x31 => if (!(strEq x26 x31)) = true then some (.rt false) else some (.nx ())) l.length (fun _ _ => True) (s := ()) trivial
    (fun k s hk _ => by
      rw [idx_nat, List.getElem?_eq_getElem hk, Option.bind_some, Option.bind_some, if_neg (by unfold strEq; simp)]
      exact ⟨_, rfl, trivial⟩)
  rw [h]
  rfl
theorem equalInt_self (l : List Int) : slices_Equal_Lint_int l l = some true := by
  unfold slices_Equal_Lint_int
  rw [if_neg (by simp)]
  obtain ⟨u, h, _⟩ := rangeB_inv (R := Bool) (b := fun k7 (_ : Unit) => Option.bind (idx l (k7 : Int)) fun x26 => Option.bind (idx l (k7 : Int)) fun x31 => if (x26 != x31) = true then some (.rt false) else some (.nx ())) l.length (fun _ _ => True) (s := ()) trivial
    (fun k s hk _ => by
      rw [idx_nat, List.getElem?_eq_getElem hk, Option.bind_some, Option.bind_some, if_neg (by simp)]
      exact ⟨_, rfl, trivial⟩)
  rw [h]
  rfl
theorem strEq_self (s : ByteArray) : strEq s s = true := by unfold strEq; simp
theorem wordsF_small : ∀ (n : Nat) (l : List UInt8), ∀ w ∈ wordsF n l, w.size ≤ 30
  | 0, _, w, h => by cases h
  | n + 1, [], w, h => by cases h
  | n + 1, b :: l, w, h => by
    rw [wordsF] at h
    rcases List.mem_append.1 h with h1 | h1
    · unfold headW at h1
      split at h1
      · rename_i hc
        rw [List.mem_singleton] at h1
        subst h1
        unfold lowL
        show (List.map low8 (List.takeWhile wb (b :: l))).toArray.size ≤ 30
        rw [List.size_toArray, List.length_map]
        exact hc.2
      · cases h1
    · exact wordsF_small n _ w h1
theorem words_small (l : List UInt8) : ∀ w ∈ wordsL l, w.size ≤ 30 := wordsF_small _ _
theorem words_len (l : List UInt8) : (wordsL l).length ≤ l.length := wordsF_length _ _

theorem words_true (s : ByteArray) (hs : s.size + 1 ≤ 1048576) : portlaw2_KnowWords s = some true := by
  unfold portlaw2_KnowWords
  have hl : (wordsL s.data.toList).length ≤ s.size := by
    have := words_len s.data.toList
    simpa using this
  rw [portref2_WordsOf_val s (by omega), Option.bind_some]
  have hc : slices_Clone_Lstring_string (wordsL s.data.toList) = some (wordsL s.data.toList) := by
    unfold slices_Clone_Lstring_string appendL
    rw [if_pos (by simp; omega)]
    rfl
  rw [hc, Option.bind_some]
  unfold appendL
  rw [if_pos (by rw [List.length_singleton]; omega), Option.bind_some]
  obtain ⟨u, h, _⟩ := rangeB_inv (R := Bool) (b := fun k31 (_ : Unit) => Option.bind (idx (wordsL s.data.toList ++ [s]) (k31 : Int)) fun x51 => Option.bind (know_Stem x51) fun x56 => Option.bind (portref2_StemOf x51) fun x57 => if (!(strEq x56 x57)) = true then some (.rt false) else some (.nx ())) (wordsL s.data.toList ++ [s]).length (fun _ _ => True) (s := ()) trivial
    (fun k t hk _ => by
      have hm := List.getElem_mem hk
      rw [idx_nat, List.getElem?_eq_getElem hk, Option.bind_some]
      generalize (wordsL s.data.toList ++ [s])[k] = x at hm
      have hx : x.size ≤ 1000000000000 := by
        rcases List.mem_append.1 hm with h | h
        · have := words_small _ x h; omega
        · rw [List.mem_singleton.1 h]; omega
      obtain ⟨r, h1, h2⟩ := stem_eq x hx
      rw [h1, h2, Option.bind_some, Option.bind_some, if_neg (by rw [strEq_self]; decide)]
      exact ⟨_, rfl, trivial⟩)
  rw [h, Option.bind_some, Lp.andThen_fin]
  obtain ⟨r, l1, l2⟩ := links_eq (s := s) (by omega)
  rw [know_Words_val s (by omega), Option.bind_some, equalStr_self, Option.bind_some, if_pos rfl, l1, l2, Option.bind_some, Option.bind_some, equalInt_self, Option.bind_some, if_pos rfl]
  unfold know_Quote portref2_QuoteOf quoteL
  rw [if_pos (by omega)]
  simp only [Option.bind_some, strEq_self]
end Go.Proofs.YtebhdihfjeiadaaGreatDoor.M
