/-
  The reference's line: plain part.
-/
import Derived.Test.YtpkkbbcflmbjeaaDoorLevelChecksTextBase
namespace Go.Proofs.YtpkkbbcflmbjeaaDoor.M
open Go Go.Pu
set_option linter.unusedSimpArgs false
set_option linter.unusedVariables false

def AnyT : AnyV → ByteArray
  | .str b => b
  | .int n => itoaB n
def AnyOk (k : Nat) : AnyV → Prop
  | .str b => b.size ≤ k
  | .int n => I64 n
theorem anyT_size {k : Nat} (hk : 21 ≤ k) {x : AnyV} (h : AnyOk k x) : (AnyT x).size ≤ k := by
  cases x with
  | str b => exact h
  | int n => exact Nat.le_trans (itoaB_size h) hk
def lineB (ws : List ByteArray) : ByteArray := joinB ws (⟨#[32]⟩ : ByteArray) ++ (⟨#[10]⟩ : ByteArray)
theorem line_some (k : Nat) (words : List AnyV) (hk : 21 ≤ k) (hk2 : k ≤ 1000000) (h : ∀ x ∈ words, AnyOk k x) (hn : words.length ≤ 1000000) : portref2_line words = some (lineB (words.map AnyT)) := by
  unfold portref2_line
  rw [rangeB_flat words (fun x => [AnyT x]) 1 8796093022208 (fun _ _ => Nat.le_refl _) _ (fun j s x hx hs => ?_) [] (by simp; omega)]
  · rw [flatMap_one]
    have h1 : ∀ y ∈ words.map AnyT, y.size ≤ k := by
      intro y hy
      obtain ⟨x, hx, rfl⟩ := List.mem_map.1 hy
      exact anyT_size hk (h x hx)
    have hb : (k + 1) * (words.map AnyT).length ≤ 1000001000000 := by
      rw [List.length_map]
      have := Nat.mul_le_mul (show k + 1 ≤ 1000001 by omega) hn
      omega
    have h2 := join_some k 1 (words.map AnyT) (⟨#[32]⟩ : ByteArray) h1 (Nat.le_refl _) (by rw [List.length_map]; omega) (by omega)
    have h3 := join_len k 1 (words.map AnyT) (⟨#[32]⟩ : ByteArray) h1 (Nat.le_refl _)
    have z : (⟨#[10]⟩ : ByteArray).size = 1 := rfl
    have h4 := (cat_val (joinB (words.map AnyT) (⟨#[32]⟩ : ByteArray)) (⟨#[10]⟩ : ByteArray) (by omega) (by omega)).1
    simp only [Option.bind_some, Lp.andThen, List.nil_append, h2, h4]
    rfl
  · have hw := h x (List.mem_of_getElem? hx)
    rw [idx_nat, hx, Option.bind_some]
    cases x with
    | str b =>
      have := append_some (s := s) (t := [b]) (by simpa using hs)
      simp [AnyV.asStr, this, AnyT]
    | int n =>
      have := append_some (s := s) (t := [itoaB n]) (by simpa using hs)
      simp [AnyV.asStr, AnyV.asInt, itoa_some (show I64 n from hw), this, AnyT]
end Go.Proofs.YtpkkbbcflmbjeaaDoor.M
