/-
  Numbers as texts: what Atoi reads and Itoa writes: plain part.
-/
import Derived.Test.YtebhdihfjeiadaaGreatDoorKnowWordsM
import Derived.Test.YtebhdihfjeiadaaGreatDoorPl
import Derived.Lib.AtoiTie
import Derived.Lib.ItoaNum
namespace Go.Proofs.YtebhdihfjeiadaaGreatDoor.M
open Go Go.Pu Go.Lib
set_option linter.unusedSimpArgs false
set_option linter.unusedVariables false

def dig (b : UInt8) : Bool := decide (48 ≤ b.toNat) && decide (b.toNat ≤ 57)
def dval (a : Nat) (l : List UInt8) : Nat := l.foldl (fun a b => a * 10 + (b.toNat - 48)) a
theorem dig_val {b : UInt8} (h : dig b = true) : digitVal b = some (b.toNat - 48) := by
  unfold dig at h
  rw [Bool.and_eq_true, decide_eq_true_eq, decide_eq_true_eq] at h
  unfold digitVal
  rw [if_pos h]
theorem dig_none {b : UInt8} (h : dig b = false) : digitVal b = none := by
  unfold digitVal
  rw [if_neg]
  rintro ⟨h1, h2⟩
  unfold dig at h
  simp [h1, h2] at h
theorem decFrom_dig : ∀ (l : List UInt8) (a : Nat), l.all dig = true → decFrom a l = some (dval a l)
  | [], a, _ => rfl
  | b :: l, a, h => by
    rw [List.all_cons, Bool.and_eq_true] at h
    rw [decFrom, dig_val h.1]
    simp only
    rw [decFrom_dig l _ h.2]
    rfl
theorem decFrom_bad : ∀ (l : List UInt8) (a : Nat), l.all dig = false → decFrom a l = none
  | [], a, h => by cases h
  | b :: l, a, h => by
    rw [decFrom]
    cases hb : dig b
    · rw [dig_none hb]
    · rw [List.all_cons, hb, Bool.true_and] at h
      rw [dig_val hb]
      exact decFrom_bad l _ h
theorem dval_snoc (a : Nat) (l : List UInt8) (b : UInt8) : dval a (l ++ [b]) = dval a l * 10 + (b.toNat - 48) := by
  unfold dval
  rw [List.foldl_append]
  rfl
theorem u8_dig (k : Nat) (h : k < 10) : dig (UInt8.ofNat (48 + k)) = true ∧ (UInt8.ofNat (48 + k)).toNat = 48 + k := by
  have : (UInt8.ofNat (48 + k)).toNat = 48 + k := by rw [UInt8.toNat_ofNat']; omega
  refine ⟨?_, this⟩
  unfold dig
  rw [this]
  simp
  omega
theorem dec_digits (u : Nat) : (decDigits u).all dig = true ∧ dval 0 (decDigits u) = u ∧ decDigits u ≠ [] ∧ ((decDigits u).length = 1 ∨ (decDigits u).head? ≠ some 48) ∧ (u ≠ 0 → (decDigits u).head? ≠ some 48) := by
  induction u using Nat.strongRecOn with
  | _ u ih =>
    by_cases h : u < 10
    · have e := decDigits_one h
      obtain ⟨h1, h2⟩ := u8_dig u h
      rw [e]
      refine ⟨by rw [List.all_cons, h1]; rfl, by show 0 * 10 + ((UInt8.ofNat (48 + u)).toNat - 48) = u; rw [h2]; omega, by simp, Or.inl rfl, fun h0 => ?_⟩
      intro hh
      have : UInt8.ofNat (48 + u) = 48 := Option.some.inj hh
      rw [this] at h2
      have : (48 : UInt8).toNat = 48 := rfl
      omega
    · have e : decDigits u = decDigits (u / 10) ++ [UInt8.ofNat (48 + u % 10)] := by rw [decDigits, dif_neg h]
      obtain ⟨i1, i2, i3, i4, i5⟩ := ih (u / 10) (by omega)
      obtain ⟨h1, h2⟩ := u8_dig (u % 10) (by omega)
      have hh : (decDigits u).head? = (decDigits (u / 10)).head? := by
        rw [e]
        cases hq : decDigits (u / 10) with
        | nil => exact absurd hq i3
        | cons x r => rfl
      have hne := i5 (by omega)
      refine ⟨by rw [e, List.all_append, i1, List.all_cons, h1]; rfl, by rw [e, dval_snoc, i2, h2]; omega, by rw [e]; simp, Or.inr (by rw [hh]; exact hne), fun _ => by rw [hh]; exact hne⟩
theorem digits_dec : ∀ (n : Nat) (l : List UInt8), l.length = n → l.all dig = true → l ≠ [] → (l.length = 1 ∨ l.head? ≠ some 48) → decDigits (dval 0 l) = l
  | 0, l, hn, _, h0, _ => absurd (List.eq_nil_of_length_eq_zero hn) h0
  | n + 1, l, hn, hd, h0, hc => by
    have hs : l = l.dropLast ++ [l.getLast h0] := (List.dropLast_concat_getLast h0).symm
    generalize l.dropLast = r at hs
    generalize l.getLast h0 = b at hs
    subst hs
    rw [List.all_append, Bool.and_eq_true] at hd
    have hb : dig b = true := by simpa using hd.2
    have hb2 : 48 ≤ b.toNat ∧ b.toNat ≤ 57 := by
      unfold dig at hb
      rw [Bool.and_eq_true, decide_eq_true_eq, decide_eq_true_eq] at hb
      exact hb
    rw [dval_snoc]
    have hbe : UInt8.ofNat (48 + (b.toNat - 48)) = b := by
      have : 48 + (b.toNat - 48) = b.toNat := by omega
      rw [this]
      exact UInt8.ofNat_toNat
    by_cases hr : r = []
    · subst hr
      show decDigits (0 * 10 + (b.toNat - 48)) = [b]
      rw [Nat.zero_mul, Nat.zero_add, decDigits_one (by omega), hbe]
    · have hc2 : r.head? ≠ some 48 := by
        rcases hc with hc | hc
        · rw [List.length_append, List.length_singleton] at hc
          exact absurd (List.eq_nil_of_length_eq_zero (by omega)) hr
        · rw [List.head?_append] at hc
          cases hq : r.head? with
          | none => simp
          | some x => rw [hq] at hc; exact hc
      have ih := digits_dec n r (by simp at hn; exact hn) hd.1 hr (Or.inr hc2)
      have hpos : 1 ≤ dval 0 r := by
        rcases Nat.eq_zero_or_pos (dval 0 r) with h | h
        · rw [h] at ih
          rw [← ih] at hc2
          exact absurd (by decide +kernel) hc2
        · exact h
      rw [decDigits, dif_neg (by omega), show (dval 0 r * 10 + (b.toNat - 48)) / 10 = dval 0 r by omega, show (dval 0 r * 10 + (b.toNat - 48)) % 10 = b.toNat - 48 by omega, hbe, ih]
theorem dval_lt (l : List UInt8) (h : l.all dig = true) : dval 0 l < 10 ^ l.length := by
  have := decFrom_lt l 0 (dval 0 l) (decFrom_dig l 0 h)
  omega
/-- behind a sign -/
def bare (l : List UInt8) : List UInt8 := match l with
  | 45 :: r => r
  | _ => l
/-- is it a number of at most k digits as Itoa writes it -/
def canB (k : Nat) (l : List UInt8) : Bool := !(decide (bare l = [])) && (decide ((bare l).length ≤ k) && ((bare l).all dig && ((decide ((bare l).length = 1) || decide ((bare l).head? ≠ some 48)) && !(decide (bare l = [48]) && decide (l ≠ [48])))))
def numOf (l : List UInt8) : Int := match atoiAll l with | .ok v => v | _ => 0
theorem bare_neg (r : List UInt8) : bare (45 :: r) = r := rfl
theorem bare_pos {l : List UInt8} (h : l.head? ≠ some 45) : bare l = l := by
  unfold bare
  split
  · rename_i r; exact absurd rfl h
  · rfl
theorem can_spec (k : Nat) (l : List UInt8) : canB k l = true ↔ bare l ≠ [] ∧ (bare l).length ≤ k ∧ (bare l).all dig = true ∧ ((bare l).length = 1 ∨ (bare l).head? ≠ some 48) ∧ ¬ (bare l = [48] ∧ l ≠ [48]) := by
  unfold canB
  simp only [Bool.and_eq_true, Bool.or_eq_true, Bool.not_eq_true', decide_eq_true_eq, decide_eq_false_iff_not, ne_eq, Bool.and_eq_false_iff]
  constructor
  · rintro ⟨h1, h2, h3, h4, h5⟩
    exact ⟨h1, h2, h3, h4, fun ⟨q1, q2⟩ => by rcases h5 with h5 | h5
                                              · exact h5 q1
                                              · exact h5 q2⟩
  · rintro ⟨h1, h2, h3, h4, h5⟩
    refine ⟨h1, h2, h3, h4, ?_⟩
    by_cases q : bare l = [48]
    · exact Or.inr fun q2 => h5 ⟨q, q2⟩
    · exact Or.inl q
theorem atoi_digits (l : List UInt8) (hl : l.length ≤ 18) (h0 : l ≠ []) (hd : l.all dig = true) : atoiAll l = .ok (dval 0 l : Int) := by
  rw [atoiAll_short l hl]
  cases l with
  | nil => exact absurd rfl h0
  | cons b r =>
    have hb : dig b = true := by rw [List.all_cons, Bool.and_eq_true] at hd; exact hd.1
    have hb2 : 48 ≤ b.toNat := by
      unfold dig at hb
      rw [Bool.and_eq_true, decide_eq_true_eq, decide_eq_true_eq] at hb
      exact hb.1
    have n45 : (b == 45) = false := by
      rw [beq_eq_false_iff_ne]
      rintro rfl
      exact absurd hb2 (by decide)
    have n43 : (b == 43) = false := by
      rw [beq_eq_false_iff_ne]
      rintro rfl
      exact absurd hb2 (by decide)
    unfold atoi
    simp only [n45, n43, Bool.false_eq_true, if_false]
    unfold decNat
    rw [List.isEmpty_cons]
    simp only [Bool.false_eq_true, if_false]
    rw [decFrom_dig _ _ hd]
    rfl
theorem atoi_neg (r : List UInt8) (hl : r.length ≤ 17) (h0 : r ≠ []) (hd : r.all dig = true) : atoiAll (45 :: r) = .ok (-(dval 0 r : Int)) := by
  rw [atoiAll_short _ (by simp; omega)]
  unfold atoi
  simp only [show ((45 : UInt8) == 45) = true from rfl, if_true]
  unfold decNat
  have : r.isEmpty = false := by cases r with
    | nil => exact absurd rfl h0
    | cons b r => rfl
  rw [this]
  simp only [Bool.false_eq_true, if_false]
  rw [decFrom_dig _ _ hd]
  rfl
theorem head_dig {l : List UInt8} (h : l.all dig = true) : l.head? ≠ some 45 := by
  cases l with
  | nil => simp
  | cons b r =>
    rw [List.all_cons, Bool.and_eq_true] at h
    intro hh
    have : b = 45 := by simpa using hh
    subst this
    exact absurd h.1 (by decide)
/-- a number as Itoa writes it is read, and written alike -/
theorem can_read {k : Nat} (hk : k ≤ 17) {l : List UInt8} (h : canB k l = true) : atoiAll l = .ok (numOf l) ∧ itoa (numOf l) = l ∧ (numOf l).natAbs = dval 0 (bare l) ∧ (numOf l < 0 ↔ l.head? = some 45) := by
  obtain ⟨h1, h2, h3, h4, h5⟩ := (can_spec k l).1 h
  suffices hs : ∃ v, atoiAll l = .ok v ∧ itoa v = l ∧ v.natAbs = dval 0 (bare l) ∧ (v < 0 ↔ l.head? = some 45) by
    obtain ⟨v, a1, a2, a3, a4⟩ := hs
    have : numOf l = v := by unfold numOf; rw [a1]
    rw [this]
    exact ⟨a1, a2, a3, a4⟩
  by_cases hm : l.head? = some 45
  · obtain ⟨r, rfl⟩ : ∃ r, l = 45 :: r := by
      cases l with
      | nil => cases hm
      | cons b r =>
        have : b = 45 := by simpa using hm
        exact ⟨r, by rw [this]⟩
    rw [bare_neg] at h1 h2 h3 h4 h5
    have hdd := digits_dec _ r rfl h3 h1 h4
    have hpos : dval 0 r ≠ 0 := by
      intro h0
      rw [h0] at hdd
      exact h5 ⟨hdd.symm.trans (decDigits_one (by omega)), by simp⟩
    refine ⟨_, atoi_neg r (by omega) h1 h3, ?_, by rw [bare_neg]; omega, by simp; omega⟩
    unfold itoa
    rw [if_pos (by omega)]
    rw [show (-(dval 0 r : Int)).natAbs = dval 0 r by omega, hdd]
  · have hb := bare_pos hm
    rw [hb] at h1 h2 h3 h4
    refine ⟨_, atoi_digits l (by omega) h1 h3, ?_, by rw [hb]; omega, ⟨fun h => by omega, fun h => absurd h hm⟩⟩
    unfold itoa
    rw [if_neg (by omega), Int.toNat_natCast, digits_dec _ l rfl h3 h1 h4]
/-- what Itoa writes is such a number -/
theorem can_written {k : Nat} {l : List UInt8} {v : Int} (h : itoa v = l) (hk : (bare l).length ≤ k) : canB k l = true := by
  rw [can_spec]
  unfold itoa at h
  split at h
  · subst h
    rw [bare_neg] at hk ⊢
    obtain ⟨d1, d2, d3, d4, d5⟩ := dec_digits v.natAbs
    refine ⟨d3, hk, d1, d4, fun ⟨q1, q2⟩ => ?_⟩
    have := d5 (by omega)
    rw [q1] at this
    exact this rfl
  · subst h
    obtain ⟨d1, d2, d3, d4, d5⟩ := dec_digits v.toNat
    have hb := bare_pos (head_dig d1)
    rw [hb] at hk ⊢
    exact ⟨d3, hk, d1, d4, fun ⟨q1, q2⟩ => q2 q1⟩
end Go.Proofs.YtebhdihfjeiadaaGreatDoor.M
