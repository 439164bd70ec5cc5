/-
  Templates: bytes that may not be: plain part.
-/
import Derived.Test.YtfdhiclmjfkflaaDoorTemplateFillsLowFeeds
namespace Go.Proofs.YtfdhiclmjfkflaaDoor.M
open Go Go.Pu
set_option linter.unusedSimpArgs false
set_option linter.unusedVariables false

theorem t_bytes_at (s : ByteArray) (k : Nat) : s[k]? = s.data.toList[k]? := by
  rw [Array.getElem?_toList]
  by_cases h : k < s.size
  · have h' : k < s.data.size := h
    rw [getElem?_pos s k h, getElem?_pos s.data k h']
    rfl
  · have h' : ¬ k < s.data.size := h
    rw [getElem?_neg s k h, getElem?_neg s.data k h']
theorem t_idxS (s : ByteArray) (k : Nat) : idxS s (k : Int) = s.data.toList[k]? := by
  rw [idxS, if_pos (by omega), Int.toNat_natCast, t_bytes_at]
def badb (b : UInt8) : Bool := lowb b && b != 10
theorem plain_val (s : ByteArray) (h : s.size ≤ 20000) : know_plain s true = some (!(s.data.toList.any badb)) := by
  unfold know_plain
  obtain ⟨o, ho, hq⟩ := whileB_spec (R := Bool) (body := fun s8 : Int => if (decide (s8 < (s.size : Int))) = true then Option.bind (idxS s s8) fun x18 => Option.bind (if (decide ((x18.toNat : Int) < 32)) = true then (some true) else (some ((x18.toNat : Int) == 127))) fun s20 => Option.bind (if s20 = true then (some (((x18.toNat : Int) != 10) || (!true))) else (some false)) fun s22 => if s22 = true then some (.rt false) else some (.nx (w64 (s8 + 1))) else some (.bk s8))
    (fun i => ∃ j : Nat, i = (j : Int) ∧ j ≤ s.size ∧ ∀ k x, k < j → s.data.toList[k]? = some x → badb x = false) (fun i => s.size - i.toNat)
    (fun o => o = .rt false ∧ s.data.toList.any badb = true ∨ (∃ i, o = .fin i) ∧ s.data.toList.any badb = false) (s := 0) ⟨0, rfl, by omega, fun k x h => by omega⟩ (by
      rintro _ ⟨j, rfl, hj, hI⟩
      by_cases hlt : j < s.size
      rotate_left
      · simp only [show ¬ ((j : Int) < (s.size : Int)) by omega, decide_false, Bool.false_eq_true, if_false]
        refine ⟨_, rfl, Or.inr ⟨⟨_, rfl⟩, ?_⟩⟩
        rw [List.any_eq_false]
        intro x hx
        obtain ⟨k, hk⟩ := List.getElem?_of_mem hx
        have hkl : k < s.size := (List.getElem?_eq_some_iff.1 hk).1
        rw [hI k x (by omega) hk]
        decide
      · have hx := get_byte s j hlt
        have hwi : w64 ((j : Int) + 1) = ((j + 1 : Nat) : Int) := by rw [w64_id (by omega) (by omega)]; rfl
        simp only [show ((j : Int) < (s.size : Int)) by omega, decide_true, if_true, t_idxS, hx, Option.bind_some]
        generalize s.get! j = c at hx
        have e1 : (if (decide ((c.toNat : Int) < 32)) = true then (some true) else (some ((c.toNat : Int) == 127))) = some (lowb c) := by
          unfold lowb
          by_cases h1 : (c.toNat : Int) < 32 <;> simp [h1]
        have e2 : (((c.toNat : Int) != 10) || (!true)) = (c != 10) := by
          rw [Bool.not_true, Bool.or_false, Bool.eq_iff_iff, bne_iff_ne, bne_iff_ne]
          constructor
          · rintro h1 rfl; exact h1 rfl
          · intro h1 h2
            refine h1 (UInt8.toNat_inj.1 ?_)
            show c.toNat = 10
            omega
        have e3 : (if lowb c = true then (some (((c.toNat : Int) != 10) || (!true))) else (some false)) = some (badb c) := by
          rw [e2]; unfold badb
          cases lowb c <;> simp
        rw [e1, Option.bind_some, e3, Option.bind_some]
        by_cases hb : badb c = true
        · rw [if_pos hb]
          exact ⟨_, rfl, Or.inl ⟨rfl, List.any_eq_true.2 ⟨c, List.mem_of_getElem? hx, hb⟩⟩⟩
        · rw [if_neg hb, hwi]
          refine ⟨_, rfl, ⟨j + 1, rfl, by omega, fun k x hk hkx => ?_⟩, by omega⟩
          rcases Nat.lt_or_ge k j with h1 | h1
          · exact hI k x h1 hkx
          · obtain rfl : k = j := by omega
            rw [hx] at hkx
            cases hkx
            simpa using hb)
  rw [ho, Option.bind_some]
  rcases hq with ⟨rfl, h1⟩ | ⟨⟨i, rfl⟩, h1⟩
  · rw [h1]; rfl
  · rw [h1]; rfl
theorem low_val (s : ByteArray) (h : s.size ≤ 20000) : (Option.bind (strings_ReplaceAll s (⟨#[10]⟩ : ByteArray) (⟨#[]⟩ : ByteArray)) fun x2 => portref2_lowByte x2) = some (s.data.toList.any badb) := by
  rw [replace_val s (by omega), Option.bind_some, lowByte_val]
  congr 1
  show (s.data.toList.filter (· != 10)).any lowb = _
  rw [List.any_filter]
  congr 1
  funext b
  unfold badb
  exact Bool.and_comm _ _
end Go.Proofs.YtfdhiclmjfkflaaDoor.M
