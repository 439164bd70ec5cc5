/-
  strings.Cut at one byte: plain part.
-/
import Derived.Test.YtcbebdcofipcpaaGreatDoorLevelReadsCutText
namespace Go.Proofs.YtcbebdcofipcpaaGreatDoor.M
open Go Go.Pu Go.Lib
set_option linter.unusedSimpArgs false
set_option linter.unusedVariables false

theorem cut_val (c : UInt8) (l : List UInt8) (hl : l.length ≤ 140737488355328) : strings_Cut (tb l) (tb [c]) = some (tb (cutA c l), tb (cutB c l), decide (c ∈ l)) := by
  unfold strings_Cut internal_stringslite_Cut internal_stringslite_Index
  have h1 : (tb [c]).data.toList = [c] := tb_list _
  rw [h1]
  simp only [tb_list, Option.bind_some]
  rw [ib_cut]
  by_cases h : c ∈ l
  · have hj := cut_join c l h
    have hlen := congrArg List.length hj
    rw [List.length_append, List.length_cons] at hlen
    rw [if_pos h, if_pos (by simp), tb_sliceH _ _ (cutA_len c l), Option.bind_some]
    have hw : w64 (((cutA c l).length : Int) + ((tb [c]).size : Int)) = (((cutA c l).length + 1 : Nat) : Int) := by
      rw [tb_size, w64_id (by simp; omega) (by simp; omega)]; rfl
    rw [hw, tb_sliceL _ _ (by omega), Option.bind_some, Option.bind_some]
    have e1 : l.take (cutA c l).length = cutA c l := by
      conv => lhs; rhs; rw [hj]
      exact List.take_left' rfl
    have e2 : l.drop ((cutA c l).length + 1) = cutB c l := by
      conv => lhs; rhs; rw [hj]
      rw [List.drop_append]
      simp
    rw [e1, e2, decide_eq_true h]
  · obtain ⟨h1, h2⟩ := cut_none c l h
    rw [if_neg h, if_neg (by decide), Option.bind_some, h1, h2, decide_eq_false h]
    rfl
end Go.Proofs.YtcbebdcofipcpaaGreatDoor.M
