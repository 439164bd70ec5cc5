/-
  Texts split at a byte: plain part.
-/
import Derived.Test.YtcbebdcofipcpaaGreatDoorLevelReadsCutText
import Derived.Lib.SplitLaws
import Derived.Lib.IndexLaws
import Derived.Lib.IndexBytes
namespace Go.Proofs.YtcbebdcofipcpaaGreatDoor.M
open Go Go.Pu
set_option linter.unusedSimpArgs false
set_option linter.unusedVariables false

/-- a text split at each c -/
def spl (c : UInt8) : List UInt8 → List (List UInt8)
  | [] => [[]]
  | b :: l => if b = c then [] :: spl c l else match spl c l with
    | [] => [[b]]
    | x :: r => (b :: x) :: r
theorem spl_ne (c : UInt8) : ∀ l, spl c l ≠ []
  | [] => by simp [spl]
  | b :: l => by
    unfold spl
    split
    · simp
    · split <;> simp
theorem splitK_spl (c : UInt8) : ∀ (n : Nat) (l : List UInt8), l.length ≤ n → Go.Lib.splitK [c] 0 (Go.Lib.count l [c]) l = spl c l
  | 0, l, h => by
    obtain rfl : l = [] := List.eq_nil_of_length_eq_zero (by omega)
    rfl
  | n + 1, [], _ => rfl
  | n + 1, b :: l, h => by
    have hl : l.length ≤ n := by simpa using h
    have ih := splitK_spl c n l hl
    by_cases hb : b = c
    · subst hb
      have hix : Go.Lib.index (b :: l) [b] = ((0 : Nat) : Int) := by rw [Go.Lib.index]; simp [List.isPrefixOf]
      rw [Go.Lib.count_cons_eq, Nat.add_comm 1, Go.Lib.splitK, if_neg (by rw [hix]; decide), hix]
      simp only [Int.toNat_natCast, Nat.zero_add, List.length_singleton, List.take_zero, List.drop_succ_cons, List.drop_zero]
      rw [ih]
      unfold spl
      rw [if_pos rfl]
      cases l <;> rfl
    · rw [Go.Lib.count_cons_ne b c l hb]
      have hp : ([c] : List UInt8).isPrefixOf (b :: l) = false := by simp [List.isPrefixOf, Ne.symm hb]
      have hix : Go.Lib.index (b :: l) [c] = if Go.Lib.index l [c] == -1 then -1 else Go.Lib.index l [c] + 1 := by rw [Go.Lib.index, hp]; simp
      have hcut : spl c (b :: l) = match spl c l with
        | [] => [[b]]
        | x :: r => (b :: x) :: r := by conv => lhs; rw [spl, if_neg hb]
      rw [hcut, ← ih]
      by_cases hm : Go.Lib.index l [c] = -1
      · rw [Go.Lib.count_miss hm]
        rfl
      · have hge := Go.Lib.index_ge l [c]
        obtain ⟨j, hj⟩ : ∃ j : Nat, Go.Lib.index l [c] = j := ⟨(Go.Lib.index l [c]).toNat, by omega⟩
        have hix' : Go.Lib.index (b :: l) [c] = ((j + 1 : Nat) : Int) := by rw [hix, if_neg (fun e => hm (beq_iff_eq.1 e)), hj]; omega
        rw [Go.Lib.count_hit (by simp) hj, Nat.add_comm 1, Go.Lib.splitK, Go.Lib.splitK, if_neg (by rw [hix']; intro e; have := beq_iff_eq.1 e; omega), if_neg (by rw [hj]; intro e; have := beq_iff_eq.1 e; omega), hix', hj]
        simp only [Int.toNat_natCast, List.length_singleton]
        have e1 : (b :: l).take (j + 1 + 0) = b :: l.take (j + 0) := rfl
        have e2 : (b :: l).drop (j + 1 + 1) = l.drop (j + 1) := rfl
        rw [e1, e2]
theorem spl_len (c : UInt8) : ∀ l, (spl c l).length ≤ l.length + 1
  | [] => Nat.le_refl _
  | b :: l => by
    have ih := spl_len c l
    rw [spl]
    split
    · simp only [List.length_cons]; omega
    · cases h : spl c l with
      | nil => simp
      | cons x r => rw [h] at ih; simp only [List.length_cons] at ih ⊢; omega
theorem spl_small (c : UInt8) : ∀ l, ∀ x ∈ spl c l, x.length ≤ l.length
  | [], x, hx => by rw [spl, List.mem_singleton] at hx; rw [hx]; exact Nat.le_refl _
  | b :: l, x, hx => by
    rw [spl] at hx
    split at hx
    · rcases List.mem_cons.1 hx with rfl | hx
      · exact Nat.zero_le _
      · have := spl_small c l x hx; simp only [List.length_cons]; omega
    · cases h : spl c l with
      | nil => rw [h] at hx; simp only [List.mem_singleton] at hx; rw [hx]; simp
      | cons y r =>
        rw [h] at hx
        rcases List.mem_cons.1 hx with rfl | hx
        · have := spl_small c l y (by rw [h]; exact List.mem_cons_self); simp only [List.length_cons]; omega
        · have := spl_small c l x (by rw [h]; exact List.mem_cons_of_mem _ hx); simp only [List.length_cons]; omega
/-- a byte of the text that is not c stands in a piece -/
theorem spl_mem (c d : UInt8) (hd : d ≠ c) : ∀ l, d ∈ l → ∃ x ∈ spl c l, d ∈ x
  | b :: l, h => by
    rw [spl]
    by_cases hb : b = c
    · rw [if_pos hb]
      rcases List.mem_cons.1 h with e | e
      · exact absurd (e.trans hb) hd
      · obtain ⟨x, h1, h2⟩ := spl_mem c d hd l e
        exact ⟨x, List.mem_cons_of_mem _ h1, h2⟩
    · rw [if_neg hb]
      cases hs : spl c l with
      | nil => exact absurd hs (spl_ne c l)
      | cons y r =>
        rcases List.mem_cons.1 h with e | e
        · exact ⟨b :: y, List.mem_cons_self, by rw [e]; exact List.mem_cons_self⟩
        · obtain ⟨x, h1, h2⟩ := spl_mem c d hd l e
          rw [hs] at h1
          rcases List.mem_cons.1 h1 with rfl | h1
          · exact ⟨b :: x, List.mem_cons_self, List.mem_cons_of_mem _ h2⟩
          · exact ⟨x, List.mem_cons_of_mem _ h1, h2⟩
theorem split_val (c : UInt8) (l : List UInt8) (hl : l.length ≤ 4000000000) : strings_Split (tb l) (tb [c]) = some ((spl c l).map tb) := by
  unfold strings_Split strings_genSplit
  rw [if_pos ⟨by rw [tb_size]; omega, by rw [tb_size]; exact Nat.le_refl _, by decide, by rw [tb_size]; exact Int.natCast_nonneg _, .inl rfl⟩, Option.bind_some, if_pos (show (-1 : Int) < 0 by decide)]
  congr 1
  have hc := Go.Lib.countB_le (tb [c]) (by rw [tb_size]; exact Nat.le_refl _) (tb l).size (tb l) (Nat.le_refl _)
  rw [show min (Go.Lib.countB (tb l) (tb [c]) + 1) ((tb l).size + 1) - 1 = Go.Lib.countB (tb l) (tb [c]) by omega]
  have hd := Go.Lib.splitB_data (tb [c]) 0 (Go.Lib.countB (tb l) (tb [c])) (tb l)
  have hk : Go.Lib.countB (tb l) (tb [c]) = Go.Lib.count l [c] := by
    show Go.Lib.count (tb l).data.toList (tb [c]).data.toList = _
    rw [tb_list, tb_list]
  rw [tb_list, tb_list, hk, splitK_spl c _ l (Nat.le_refl _)] at hd
  rw [hk, ← hd, List.map_map]
  conv => lhs; rw [← List.map_id (Go.Lib.splitB (tb [c]) _ (Go.Lib.count l [c]) (tb l))]
  apply List.map_congr_left
  intro x _
  exact (tb_of x).symm
end Go.Proofs.YtcbebdcofipcpaaGreatDoor.M
