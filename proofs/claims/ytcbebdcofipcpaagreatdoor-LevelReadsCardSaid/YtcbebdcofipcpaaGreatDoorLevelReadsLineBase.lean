/-
  Texts taken line by line: plain part.
-/
import Derived.Test.YtcbebdcofipcpaaGreatDoorLevelReadsSplitText
import Derived.Test.YtcbebdcofipcpaaGreatDoorLevelReadsCutVal
import Derived.Test.YtcbebdcofipcpaaGreatDoorLevelReadsPatchBase
namespace Go.Proofs.YtcbebdcofipcpaaGreatDoor.M
open Go Go.Pu
set_option linter.unusedSimpArgs false
set_option linter.unusedVariables false

theorem whileB_eq {S R : Type} (body : S → Option (Ctl S R)) (s : S) : whileB body s = Option.bind (body s) fun x => match x with
    | .nx s' => whileB body s'
    | .bk s' => some (.fin s')
    | .rt r => some (.rt r) := by
  ext r
  rw [whileB_iff]
  constructor
  · rintro ⟨n, hn⟩
    cases n with
    | zero => simp [whileN] at hn
    | succ n =>
      rw [whileN] at hn
      cases hb : body s with
      | none => rw [hb] at hn; cases hn
      | some x =>
        rw [hb] at hn
        cases x with
        | nx s' => exact whileB_iff.2 ⟨n, hn⟩
        | bk s' => exact hn
        | rt r => exact hn
  · intro h
    cases hb : body s with
    | none => rw [hb] at h; cases h
    | some x =>
      rw [hb] at h
      cases x with
      | nx s' =>
        obtain ⟨n, hn⟩ := whileB_iff.1 h
        exact ⟨n + 1, by rw [whileN, hb]; exact hn⟩
      | bk s' => exact ⟨1, by rw [whileN, hb]; exact h⟩
      | rt r => exact ⟨1, by rw [whileN, hb]; exact h⟩
theorem after_val (l : List UInt8) (hl : l.length ≤ 4000000000) : strings_SplitAfter (tb l) (tb [10]) = some ((cutL l).map tb) := by
  unfold strings_SplitAfter strings_genSplit
  rw [if_pos ⟨by rw [tb_size]; omega, by rw [tb_size]; exact Nat.le_refl _, by rw [tb_size]; decide, Int.le_refl _, .inl rfl⟩, Option.bind_some, if_pos (show (-1 : Int) < 0 by decide)]
  congr 1
  have hc := Go.Lib.countB_le (tb [10]) (by rw [tb_size]; exact Nat.le_refl _) (tb l).size (tb l) (Nat.le_refl _)
  rw [show min (Go.Lib.countB (tb l) (tb [10]) + 1) ((tb l).size + 1) - 1 = Go.Lib.countB (tb l) (tb [10]) by omega]
  have hd := Go.Lib.splitB_data (tb [10]) 1 (Go.Lib.countB (tb l) (tb [10])) (tb l)
  have hk : Go.Lib.countB (tb l) (tb [10]) = Go.Lib.count l [10] := by
    show Go.Lib.count (tb l).data.toList (tb [10]).data.toList = _
    rw [tb_list, tb_list]
  rw [tb_list, tb_list, hk, splitK_cut _ l (Nat.le_refl _)] at hd
  have h1 : (((tb [10]).size : Int)).toNat = 1 := by rw [tb_size]; rfl
  rw [hk, h1, ← hd, List.map_map]
  conv => lhs; rw [← List.map_id (Go.Lib.splitB (tb [10]) _ (Go.Lib.count l [10]) (tb l))]
  apply List.map_congr_left
  intro x _
  exact (tb_of x).symm
theorem suffix_feed (u : List UInt8) (hl : u.length ≤ 400000) : strings_CutSuffix (tb (u ++ [10])) (⟨#[10]⟩ : ByteArray) = some (tb u, true) := by
  unfold strings_CutSuffix internal_stringslite_CutSuffix internal_stringslite_HasSuffix
  have h1 : (⟨#[10]⟩ : ByteArray) = tb [10] := rfl
  have hw : w64 (((u ++ [10]).length : Int) - (([10] : List UInt8).length : Int)) = ((u.length : Nat) : Int) := by
    rw [w64_id (by simp <;> omega) (by simp <;> omega)]; simp
  rw [h1, tb_size, tb_size, if_pos (by simp <;> omega), hw, tb_sliceL _ _ (by simp), Option.bind_some, Option.bind_some, Option.bind_some]
  rw [List.drop_left, tb_eq, if_neg (by simp), tb_sliceH _ _ (by simp), List.take_left]
  rfl
theorem suffix_none (t : List UInt8) (hl : t.length ≤ 400000) (hn : noFeed t) : strings_CutSuffix (tb t) (⟨#[10]⟩ : ByteArray) = some (tb t, false) := by
  unfold strings_CutSuffix internal_stringslite_CutSuffix internal_stringslite_HasSuffix
  have h1 : (⟨#[10]⟩ : ByteArray) = tb [10] := rfl
  rw [h1, tb_size, tb_size]
  rcases List.eq_nil_or_concat t with rfl | ⟨u, b, rfl⟩
  · rfl
  · rw [List.concat_eq_append] at hl hn ⊢
    have hlen : (u ++ [b]).length = u.length + 1 := by simp
    have hw : w64 (((u ++ [b]).length : Int) - (([10] : List UInt8).length : Int)) = ((u.length : Nat) : Int) := by
      rw [hlen] at hl ⊢
      rw [w64_id (by simp <;> omega) (by simp <;> omega)]; simp
    have hb : b ≠ 10 := hn b (by simp)
    rw [if_pos (by simp <;> omega), hw, tb_sliceL _ _ (by simp), Option.bind_some, Option.bind_some, Option.bind_some]
    rw [List.drop_left, tb_eq, if_pos (by simp [hb])]
    rfl

def flt (us : List (List UInt8)) (t : List UInt8) : List UInt8 := (us.map (· ++ [10])).flatten ++ t
end Go.Proofs.YtcbebdcofipcpaaGreatDoor.M
