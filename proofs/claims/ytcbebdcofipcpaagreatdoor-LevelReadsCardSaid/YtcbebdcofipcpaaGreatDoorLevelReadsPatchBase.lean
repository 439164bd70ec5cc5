/-
  The lines of a body: what they are: plain part.
-/
import Derived.Test.YtcbebdcofipcpaaGreatDoorLevelReadsM
import Derived.Test.YtcbebdcofipcpaaGreatDoorPl
import Derived.Lib.SplitLaws
import Derived.Lib.IndexLaws
import Derived.Lib.IndexBytes
namespace Go.Proofs.YtcbebdcofipcpaaGreatDoor.M
open Go Go.Pu
set_option linter.unusedSimpArgs false
set_option linter.unusedVariables false

/-- a body cut behind each line feed -/
def cutL : List UInt8 → List (List UInt8)
  | [] => [[]]
  | b :: l => if b = 10 then [10] :: cutL l else match cutL l with
    | [] => [[b]]
    | x :: r => (b :: x) :: r
theorem cutL_ne : ∀ l, cutL l ≠ []
  | [] => by simp [cutL]
  | b :: l => by
    unfold cutL
    split
    · simp
    · split <;> simp
/-- the kit's pieces are these -/
theorem splitK_cut : ∀ (n : Nat) (l : List UInt8), l.length ≤ n → Go.Lib.splitK [10] 1 (Go.Lib.count l [10]) l = cutL l
  | 0, l, h => by
    obtain rfl : l = [] := List.eq_nil_of_length_eq_zero (by omega)
    rfl
  | n + 1, [], _ => rfl
  | n + 1, b :: l, h => by
    have hl : l.length ≤ n := by simpa using h
    have ih := splitK_cut n l hl
    by_cases hb : b = 10
    · subst hb
      have hix : Go.Lib.index ((10 : UInt8) :: l) [10] = ((0 : Nat) : Int) := by rw [Go.Lib.index]; simp [List.isPrefixOf]
      rw [Go.Lib.count_cons_eq, Nat.add_comm 1, Go.Lib.splitK, if_neg (by rw [hix]; decide), hix]
      simp only [Int.toNat_natCast, Nat.zero_add, List.length_singleton, List.take_succ_cons, List.take_zero, List.drop_succ_cons, List.drop_zero]
      rw [ih]
      unfold cutL
      rw [if_pos rfl]
      cases l <;> rfl
    · rw [Go.Lib.count_cons_ne b 10 l hb]
      have hp : ([10] : List UInt8).isPrefixOf (b :: l) = false := by simp [List.isPrefixOf, Ne.symm hb]
      have hix : Go.Lib.index (b :: l) [10] = if Go.Lib.index l [10] == -1 then -1 else Go.Lib.index l [10] + 1 := by rw [Go.Lib.index, hp]; simp
      have hcut : cutL (b :: l) = match cutL l with
        | [] => [[b]]
        | x :: r => (b :: x) :: r := by conv => lhs; rw [cutL, if_neg hb]
      rw [hcut, ← ih]
      by_cases hm : Go.Lib.index l [10] = -1
      · rw [Go.Lib.count_miss hm]
        rfl
      · have hge := Go.Lib.index_ge l [10]
        obtain ⟨j, hj⟩ : ∃ j : Nat, Go.Lib.index l [10] = j := ⟨(Go.Lib.index l [10]).toNat, by omega⟩
        have hix' : Go.Lib.index (b :: l) [10] = ((j + 1 : Nat) : Int) := by rw [hix, if_neg (fun e => hm (beq_iff_eq.1 e)), hj]; omega
        rw [Go.Lib.count_hit (by simp) hj, Nat.add_comm 1, Go.Lib.splitK, Go.Lib.splitK, if_neg (by rw [hix']; intro e; have := beq_iff_eq.1 e; omega), if_neg (by rw [hj]; intro e; have := beq_iff_eq.1 e; omega), hix', hj]
        simp only [Int.toNat_natCast, List.length_singleton]
        have e1 : (b :: l).take (j + 1 + 1) = b :: l.take (j + 1) := rfl
        have e2 : (b :: l).drop (j + 1 + 1) = l.drop (j + 1) := rfl
        rw [e1, e2]
/-- a line: letters, and perhaps a line feed behind them -/
def noFeed (l : List UInt8) : Prop := ∀ b ∈ l, b ≠ 10
def isLine (l : List UInt8) : Prop := (∃ t, noFeed t ∧ l = t ++ [10]) ∨ (noFeed l ∧ l ≠ [])
theorem cut_noFeed : ∀ {l : List UInt8}, noFeed l → cutL l = [l]
  | [], _ => rfl
  | b :: l, h => by
    rw [cutL, if_neg (h b (List.mem_cons_self ..)), cut_noFeed fun c hc => h c (List.mem_cons_of_mem _ hc)]
theorem cut_feed : ∀ (t : List UInt8), noFeed t → ∀ l, cutL (t ++ 10 :: l) = (t ++ [10]) :: cutL l
  | [], _, l => by rw [List.nil_append, cutL, if_pos rfl]; rfl
  | b :: t, h, l => by
    rw [List.cons_append, cutL, if_neg (h b (List.mem_cons_self ..)), cut_feed t (fun c hc => h c (List.mem_cons_of_mem _ hc)) l]
    rfl
/-- the pieces of a body: lines, and then what is behind the last line feed -/
theorem cut_spec : ∀ (l : List UInt8), ∃ (ls : List (List UInt8)) (t : List UInt8), cutL l = ls ++ [t] ∧ noFeed t ∧ (∀ x ∈ ls, ∃ u, noFeed u ∧ x = u ++ [10]) ∧ ls.flatten ++ t = l
  | [] => ⟨[], [], rfl, by simp [noFeed], by simp, rfl⟩
  | b :: l => by
    obtain ⟨ls, t, h1, h2, h3, h4⟩ := cut_spec l
    by_cases hb : b = 10
    · subst hb
      refine ⟨[10] :: ls, t, by rw [cutL, if_pos rfl, h1]; rfl, h2, ?_, by rw [List.flatten_cons]; simp [h4]⟩
      intro x hx
      rcases List.mem_cons.1 hx with rfl | hx
      · exact ⟨[], by simp [noFeed], rfl⟩
      · exact h3 x hx
    · rw [cutL, if_neg hb, h1]
      cases ls with
      | nil =>
        refine ⟨[], b :: t, rfl, ?_, by simp, by simpa using congrArg (b :: ·) h4⟩
        intro c hc
        rcases List.mem_cons.1 hc with rfl | hc
        · exact hb
        · exact h2 c hc
      | cons x ls =>
        refine ⟨(b :: x) :: ls, t, rfl, h2, ?_, by rw [← h4]; simp⟩
        intro y hy
        rcases List.mem_cons.1 hy with rfl | hy
        · obtain ⟨u, hu, rfl⟩ := h3 x (List.mem_cons_self ..)
          refine ⟨b :: u, ?_, rfl⟩
          intro c hc
          rcases List.mem_cons.1 hc with rfl | hc
          · exact hb
          · exact hu c hc
        · exact h3 y (List.mem_cons_of_mem _ hy)
/-- the lines of a body -/
def linesL (l : List UInt8) : List (List UInt8) := if (cutL l).getLast? = some [] then (cutL l).dropLast else cutL l
theorem lines_isLine (l : List UInt8) : (∀ x ∈ linesL l, isLine x) ∧ (linesL l).flatten = l := by
  obtain ⟨ls, t, h1, h2, h3, h4⟩ := cut_spec l
  unfold linesL
  rw [h1]
  by_cases ht : t = []
  · subst ht
    rw [if_pos (by simp), List.dropLast_concat]
    exact ⟨fun x hx => .inl (h3 x hx), by simpa using h4⟩
  · rw [if_neg (by simp [ht])]
    refine ⟨fun x hx => ?_, by simpa using h4⟩
    rcases List.mem_append.1 hx with hx | hx
    · exact .inl (h3 x hx)
    · simp at hx
      subst hx
      exact .inr ⟨h2, ht⟩
/-- lines joined are cut into these lines again -/
theorem lines_join : ∀ (ls : List (List UInt8)), (∀ x ∈ ls, isLine x) → (∀ (i : Nat) x, i + 1 < ls.length → ls[i]? = some x → ∃ u, noFeed u ∧ x = u ++ [10]) → linesL ls.flatten = ls
  | [], _, _ => rfl
  | [x], h, _ => by
    rcases h x (List.mem_singleton_self x) with ⟨u, hu, rfl⟩ | ⟨hx, hne⟩
    · unfold linesL
      have e : cutL ([u ++ [10]] : List (List UInt8)).flatten = (u ++ [10]) :: [[]] := by
        simp only [List.flatten_cons, List.flatten_nil, List.append_nil]
        rw [cut_feed u hu []]
        rfl
      rw [e]
      rfl
    · unfold linesL
      have e : cutL ([x] : List (List UInt8)).flatten = [x] := by
        simp only [List.flatten_cons, List.flatten_nil, List.append_nil]
        exact cut_noFeed hx
      rw [e, if_neg (by simp [hne])]
  | x :: y :: r, h, hf => by
    obtain ⟨u, hu, rfl⟩ := hf 0 x (by simp) rfl
    have ih := lines_join (y :: r) (fun z hz => h z (List.mem_cons_of_mem _ hz)) (fun i z hi hz => hf (i + 1) z (by simpa using hi) (by simpa using hz))
    have e : cutL ((u ++ [10]) :: y :: r).flatten = (u ++ [10]) :: cutL (y :: r).flatten := by
      rw [List.flatten_cons, List.append_assoc, List.singleton_append]
      exact cut_feed u hu _
    unfold linesL at ih ⊢
    rw [e]
    have hne := cutL_ne (y :: r).flatten
    rw [List.getLast?_cons_of_ne_nil hne]
    split
    · rename_i hl
      rw [if_pos hl] at ih
      rw [List.dropLast_cons_of_ne_nil hne, ih]
    · rename_i hl
      rw [if_neg hl] at ih
      rw [ih]
end Go.Proofs.YtcbebdcofipcpaaGreatDoor.M
