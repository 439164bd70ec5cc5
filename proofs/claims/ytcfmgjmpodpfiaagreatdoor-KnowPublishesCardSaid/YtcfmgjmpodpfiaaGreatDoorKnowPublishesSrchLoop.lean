/-
  The loop of a search in a sorted list: plain part.
-/
import Derived.Test.YtcfmgjmpodpfiaaGreatDoorKnowPublishesM
import Derived.Test.YtcfmgjmpodpfiaaGreatDoorPl
namespace Go.Proofs.YtcfmgjmpodpfiaaGreatDoor.M
open Go Go.Pu
set_option linter.unusedSimpArgs false
set_option linter.unusedVariables false

theorem mid_half (n : Nat) (hn : n ≤ 4000000000000000000) : Option.bind (shr .u64 (IntKind.wrap .u64 (w64 (n : Int))) 1) (fun x => some (IntKind.wrap .i64 x)) = some ((n / 2 : Nat) : Int) := by
  have h1 : w64 (n : Int) = (n : Int) := w64_id (by omega) (by omega)
  have h2 : IntKind.wrap .u64 (n : Int) = (n : Int) := by
    simp only [IntKind.wrap, IntKind.bits, IntKind.signed]
    simp
    omega
  have h3 : IntKind.wrap .i64 ((n : Int).fdiv 2) = ((n / 2 : Nat) : Int) := by
    have : (n : Int).fdiv 2 = ((n / 2 : Nat) : Int) := by
      rw [Int.fdiv_eq_ediv_of_nonneg _ (by decide)]
      omega
    rw [this]
    exact w64_id (by omega) (by omega)
  rw [h1, h2, shr, if_neg (by decide)]
  have e : (2 : Int) ^ (min (1 : Int).toNat IntKind.u64.bits) = 2 := by decide
  rw [e]
  simp only [Option.bind_some, h3]
/-- the loop of a search in a sorted list: lo x says that x lies ahead of the place -/
theorem search_loop {α R : Type} {l : List α} (hl : l.length ≤ 2000000000000000000) (f : α → Option Bool) (lo : α → Bool) (hf : ∀ x ∈ l, f x = some (lo x)) (hm : ∀ (p q : Nat) (x y : α), p < q → l[p]? = some x → l[q]? = some y → lo y = true → lo x = true)
    (body : Int × Int → Option (Ctl (Int × Int) R)) (hbody : ∀ s : Int × Int, body s = if (decide (s.1 < s.2)) = true then Option.bind (shr .u64 (IntKind.wrap .u64 (w64 (s.1 + s.2))) 1) (fun v => Option.bind (idx l (IntKind.wrap .i64 v)) fun x => Option.bind (f x) fun b => if b = true then some (.nx (w64 ((IntKind.wrap .i64 v) + 1), s.2)) else some (.nx (s.1, IntKind.wrap .i64 v))) else some (.bk (s.1, s.2))) :
    ∃ a : Nat, a ≤ l.length ∧ whileB body (0, (l.length : Int)) = some (.fin ((a : Int), (a : Int))) ∧ (∀ q x, q < a → l[q]? = some x → lo x = true) ∧ ∀ q x, a ≤ q → l[q]? = some x → lo x = false := by
  obtain ⟨o, ho, a, rfl, ha, hlo, hhi⟩ := whileB_spec (R := R) (body := body)
    (fun s => ∃ a b : Nat, s = ((a : Int), (b : Int)) ∧ a ≤ b ∧ b ≤ l.length ∧ (∀ q x, q < a → l[q]? = some x → lo x = true) ∧ ∀ q x, b ≤ q → l[q]? = some x → lo x = false) (fun s => (s.2 - s.1).toNat)
    (fun o => ∃ a : Nat, o = .fin ((a : Int), (a : Int)) ∧ a ≤ l.length ∧ (∀ q x, q < a → l[q]? = some x → lo x = true) ∧ ∀ q x, a ≤ q → l[q]? = some x → lo x = false) (s := (0, (l.length : Int)))
    ⟨0, l.length, rfl, Nat.zero_le _, Nat.le_refl _, fun q x h => absurd h (Nat.not_lt_zero _), fun q x h hx => absurd (List.getElem?_eq_some_iff.1 hx).1 (by omega)⟩ (by
    rintro _ ⟨a, b, rfl, hab, hb, h1, h2⟩
    rw [hbody]
    simp only
    by_cases hlt : (a : Int) < (b : Int)
    · have hm' := mid_half (a + b) (by omega)
      rw [if_pos (by simpa using hlt)]
      cases hsh : shr .u64 (IntKind.wrap .u64 (w64 ((a : Int) + (b : Int)))) 1 with
      | none => rw [show ((a + b : Nat) : Int) = (a : Int) + (b : Int) by omega, hsh] at hm'; simp at hm'
      | some v =>
        rw [show ((a + b : Nat) : Int) = (a : Int) + (b : Int) by omega, hsh] at hm'
        simp only [Option.bind_some, Option.some.injEq] at hm'
        have hmb : (a + b) / 2 < l.length := by omega
        have hx : l[(a + b) / 2]? = some l[(a + b) / 2] := List.getElem?_eq_getElem hmb
        generalize l[(a + b) / 2] = x at hx
        simp only [Option.bind_some, hm', idx_nat, hx, hf x (List.mem_of_getElem? hx)]
        cases hd : lo x with
        | true =>
          simp only [if_true]
          rw [w64_id (by omega) (by omega)]
          refine ⟨_, rfl, ⟨(a + b) / 2 + 1, b, by congr 1, by omega, hb, fun q y hq hy => ?_, h2⟩, by simp only; omega⟩
          rcases Nat.lt_or_eq_of_le (Nat.le_of_lt_succ hq) with h | rfl
          · exact hm q _ y x h hy hx hd
          · rw [hx] at hy; cases hy; exact hd
        | false =>
          simp only [Bool.false_eq_true, if_false]
          refine ⟨_, rfl, ⟨a, (a + b) / 2, rfl, by omega, by omega, h1, fun q y hq hy => ?_⟩, by simp only; omega⟩
          rcases Nat.lt_or_eq_of_le hq with h | rfl
          · rw [← Bool.not_eq_true]
            intro hy'
            rw [hm _ q x y h hx hy hy'] at hd
            cases hd
          · rw [hx] at hy; cases hy; exact hd
    · rw [if_neg (by simpa using hlt)]
      obtain rfl : a = b := by omega
      exact ⟨_, rfl, a, rfl, hb, h1, h2⟩)
  exact ⟨a, ha, ho, hlo, hhi⟩

end Go.Proofs.YtcfmgjmpodpfiaaGreatDoor.M
