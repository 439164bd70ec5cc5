/-
  Numbers in a text, by the code and by the document: plain part.
-/
import Derived.Test.YtcbebdcofipcpaaGreatDoorLevelReadsCutText
import Derived.Lib.AtoiAllMem
namespace Go.Proofs.YtcbebdcofipcpaaGreatDoor.M
open Go Go.Pu Go.Lib
set_option linter.unusedSimpArgs false
set_option linter.unusedVariables false

theorem itoa_some {l : List UInt8} {v : Int} (h : atoiAll l = .ok v) : strconv_Itoa v = some (tb (itoa v)) := by
  obtain ⟨h1, h2⟩ := Go.Lib.atoiAll_bounds h
  unfold strconv_Itoa
  rw [if_pos ⟨by omega, by omega⟩]
  rfl
theorem num_code (l : List UInt8) (hl : l.length ≤ 281474976710656) (k : Nat) (hk : k ≤ 18) : level_number (tb l) (k : Int) = some (if canB k l = true then (numOf l, true) else (0, false)) := by
  unfold level_number strconv_Atoi
  rw [if_pos (by rw [tb_size]; exact hl), tb_list, Option.bind_some]
  have hno : ∀ e : NumEnd Int, atoiAll l = e → (∀ v, e ≠ .ok v) → canB k l = false := fun e he hv => by
    rw [← Bool.not_eq_true]
    intro h
    exact hv _ (he.symm.trans (can_read hk h).1)
  cases ha : atoiAll l with
  | ok v =>
    simp only [Bool.false_eq_true, if_false]
    rw [itoa_some ha, Option.bind_some, tb_eq]
    by_cases hi : itoa v = l
    · rw [decide_eq_true hi]
      simp only [Bool.not_true, Bool.false_eq_true, if_false]
      rw [trimP_val, Option.bind_some, Option.bind_some, tb_size]
      by_cases hlen : (bare l).length ≤ k
      · have hc := can_written hi hlen
        have hn := (can_read hk hc).1
        rw [ha] at hn
        injection hn with hn
        rw [if_neg (by simp; omega), hc, if_pos rfl, hn]
      · have hc : canB k l = false := by
          rw [← Bool.not_eq_true, can_spec]
          exact fun h => hlen h.2.1
        rw [if_pos (by simp; omega), hc]
        rfl
    · have hc : canB k l = false := by
        rw [← Bool.not_eq_true]
        intro h
        obtain ⟨h1, h2, _⟩ := can_read hk h
        rw [ha] at h1
        injection h1 with h1
        exact hi (by rw [h1]; exact h2)
      rw [decide_eq_false hi, hc]
      rfl
  | _ =>
    rw [hno _ ha (fun v h => by cases h)]
    rfl
theorem digits_val (l : List UInt8) (hl : l.length ≤ 9223372036854775807) (k : Nat) : portref2_digits (tb l) (k : Int) = some (digB k l) := by
  unfold portref2_digits
  obtain ⟨t, ht, he⟩ := trim_digits l hl
  have hnil : strEq (tb l) (⟨#[]⟩ : ByteArray) = decide (l = []) := tb_eq l []
  rw [hnil, tb_size]
  unfold digB
  by_cases h0 : l = []
  · subst h0
    rfl
  rw [decide_eq_false h0]
  simp only [Bool.not_false, if_true, Bool.true_and]
  by_cases h1 : l.length ≤ k
  · rw [if_pos (by simp; omega), ht, Option.bind_some, he, decide_eq_true h1, Bool.true_and]
    by_cases h2 : l.all dig = true
    · rw [if_pos h2, h2, Bool.true_and]
      by_cases h3 : l.length = 1
      · rw [if_pos (by simp [h3]), decide_eq_true h3]; rfl
      · rw [if_neg (by simp; omega), decide_eq_false h3, Bool.false_or]
        have hi : idxS (tb l) 0 = l[0]? := tb_idx l 0
        rw [hi]
        cases l with
        | nil => exact absurd rfl h0
        | cons b r =>
          have e4 : ((b.toNat : Int) != 48) = decide ((b :: r).head? ≠ some 48) := by
            rw [Bool.eq_iff_iff, bne_iff_ne, decide_eq_true_eq]
            constructor
            · intro h q
              have : b = 48 := Option.some.inj q
              subst this
              exact h rfl
            · intro h q
              apply h
              show some b = some 48
              congr 1
              apply UInt8.toNat_inj.1
              show b.toNat = 48
              omega
          exact congrArg some e4
    · rw [if_neg h2]
      have : l.all dig = false := by simpa using h2
      rw [this]
      rfl
  · rw [if_neg (by simp; omega), decide_eq_false h1]
    rfl
theorem bare_len (l : List UInt8) : (bare l).length ≤ l.length := by
  unfold bare
  split
  · simp
  · exact Nat.le_refl _
theorem num_ref (l : List UInt8) (hl : l.length ≤ 281474976710656) (k : Nat) (hk : k ≤ 18) : portref2_number (tb l) (k : Int) = some (if canB k l = true then (numOf l, true) else (0, false)) := by
  unfold portref2_number
  have hb := bare_len l
  rw [trimP_val, Option.bind_some, digits_val _ (by omega), Option.bind_some]
  have e1 : strEq (tb (bare l)) (⟨#[48]⟩ : ByteArray) = decide (bare l = [48]) := tb_eq _ [48]
  have e2 : strEq (tb l) (⟨#[48]⟩ : ByteArray) = decide (l = [48]) := tb_eq _ [48]
  rw [e1, e2]
  have e3 : ((!(digB k (bare l))) || (decide (bare l = [48]) && !(decide (l = [48])))) = !(canB k l) := by
    unfold canB digB
    have : decide (l ≠ [48]) = !(decide (l = [48])) := by simp
    rw [this]
    generalize decide (bare l = []) = a
    generalize decide ((bare l).length ≤ k) = b
    generalize (bare l).all dig = c
    generalize (decide ((bare l).length = 1) || decide ((bare l).head? ≠ some 48)) = d
    generalize decide (bare l = [48]) = f
    generalize decide (l = [48]) = g
    cases a <;> cases b <;> cases c <;> cases d <;> cases f <;> cases g <;> rfl
  rw [e3]
  cases hc : canB k l with
  | false => rfl
  | true =>
    simp only [Bool.not_true, Bool.false_eq_true, if_false, if_true]
    unfold strconv_Atoi
    rw [if_pos (by rw [tb_size]; exact hl), tb_list, (can_read hk hc).1]
    rfl
end Go.Proofs.YtcbebdcofipcpaaGreatDoor.M
