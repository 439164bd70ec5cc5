/-
  Numbers as texts: what Atoi reads and Itoa writes: plain part.
-/
import Derived.Test.YtnnbhehaplphiaaGreatDoorRatioSumsM
import Derived.Test.YtnnbhehaplphiaaGreatDoorPl
import Derived.Lib.AtoiTie
import Derived.Lib.ItoaNum
import Derived.Test.YtnnbhehaplphiaaGreatDoorRatioSumsBigA
import Derived.Test.YtnnbhehaplphiaaGreatDoorRatioSumsBigBy
import Derived.Test.YtnnbhehaplphiaaGreatDoorRatioSumsBigB
namespace Go.Proofs.YtnnbhehaplphiaaGreatDoor.M
open Go Go.Pu Go.Lib
set_option linter.unusedSimpArgs false
set_option linter.unusedVariables false

def dig (b : UInt8) : Bool := decide (48 ≤ b.toNat) && decide (b.toNat ≤ 57)
def dval (a : Nat) (l : List UInt8) : Nat := l.foldl (fun a b => a * 10 + (b.toNat - 48)) a
theorem dig_val {b : UInt8} (h : dig b = true) : digitVal b = some (b.toNat - 48) := by
  unfold dig at h
  rw [Bool.and_eq_true, decide_eq_true_eq, decide_eq_true_eq] at h
  unfold digitVal
  rw [if_pos h]
theorem decFrom_dig : ∀ (l : List UInt8) (a : Nat), l.all dig = true → decFrom a l = some (dval a l)
  | [], a, _ => rfl
  | b :: l, a, h => by
    rw [List.all_cons, Bool.and_eq_true] at h
    rw [decFrom, dig_val h.1]
    simp only
    rw [decFrom_dig l _ h.2]
    rfl
theorem dval_snoc (a : Nat) (l : List UInt8) (b : UInt8) : dval a (l ++ [b]) = dval a l * 10 + (b.toNat - 48) := by
  unfold dval
  rw [List.foldl_append]
  rfl
theorem u8_dig (k : Nat) (h : k < 10) : dig (UInt8.ofNat (48 + k)) = true ∧ (UInt8.ofNat (48 + k)).toNat = 48 + k := by
  have : (UInt8.ofNat (48 + k)).toNat = 48 + k := by rw [UInt8.toNat_ofNat']; omega
  refine ⟨?_, this⟩
  unfold dig
  rw [this]
  simp
  omega
theorem dec_digits (u : Nat) : (decDigits u).all dig = true ∧ dval 0 (decDigits u) = u ∧ decDigits u ≠ [] ∧ ((decDigits u).length = 1 ∨ (decDigits u).head? ≠ some 48) ∧ (u ≠ 0 → (decDigits u).head? ≠ some 48) := by
  induction u using Nat.strongRecOn with
  | _ u ih =>
    by_cases h : u < 10
    · have e := decDigits_one h
      obtain ⟨h1, h2⟩ := u8_dig u h
      rw [e]
      refine ⟨by rw [List.all_cons, h1]; rfl, by show 0 * 10 + ((UInt8.ofNat (48 + u)).toNat - 48) = u; rw [h2]; omega, by simp, Or.inl rfl, fun h0 => ?_⟩
      intro hh
      have : UInt8.ofNat (48 + u) = 48 := Option.some.inj hh
      rw [this] at h2
      have : (48 : UInt8).toNat = 48 := rfl
      omega
    · have e : decDigits u = decDigits (u / 10) ++ [UInt8.ofNat (48 + u % 10)] := by rw [decDigits, dif_neg h]
      obtain ⟨i1, i2, i3, i4, i5⟩ := ih (u / 10) (by omega)
      obtain ⟨h1, h2⟩ := u8_dig (u % 10) (by omega)
      have hh : (decDigits u).head? = (decDigits (u / 10)).head? := by
        rw [e]
        cases hq : decDigits (u / 10) with
        | nil => exact absurd hq i3
        | cons x r => rfl
      have hne := i5 (by omega)
      refine ⟨by rw [e, List.all_append, i1, List.all_cons, h1]; rfl, by rw [e, dval_snoc, i2, h2]; omega, by rw [e]; simp, Or.inr (by rw [hh]; exact hne), fun _ => by rw [hh]; exact hne⟩
theorem digits_dec : ∀ (n : Nat) (l : List UInt8), l.length = n → l.all dig = true → l ≠ [] → (l.length = 1 ∨ l.head? ≠ some 48) → decDigits (dval 0 l) = l
  | 0, l, hn, _, h0, _ => absurd (List.eq_nil_of_length_eq_zero hn) h0
  | n + 1, l, hn, hd, h0, hc => by
    have hs : l = l.dropLast ++ [l.getLast h0] := (List.dropLast_concat_getLast h0).symm
    generalize l.dropLast = r at hs
    generalize l.getLast h0 = b at hs
    subst hs
    rw [List.all_append, Bool.and_eq_true] at hd
    have hb : dig b = true := by simpa using hd.2
    have hb2 : 48 ≤ b.toNat ∧ b.toNat ≤ 57 := by
      unfold dig at hb
      rw [Bool.and_eq_true, decide_eq_true_eq, decide_eq_true_eq] at hb
      exact hb
    rw [dval_snoc]
    have hbe : UInt8.ofNat (48 + (b.toNat - 48)) = b := by
      have : 48 + (b.toNat - 48) = b.toNat := by omega
      rw [this]
      exact UInt8.ofNat_toNat
    by_cases hr : r = []
    · subst hr
      show decDigits (0 * 10 + (b.toNat - 48)) = [b]
      rw [Nat.zero_mul, Nat.zero_add, decDigits_one (by omega), hbe]
    · have hc2 : r.head? ≠ some 48 := by
        rcases hc with hc | hc
        · rw [List.length_append, List.length_singleton] at hc
          exact absurd (List.eq_nil_of_length_eq_zero (by omega)) hr
        · rw [List.head?_append] at hc
          cases hq : r.head? with
          | none => simp
          | some x => rw [hq] at hc; exact hc
      have ih := digits_dec n r (by simp at hn; exact hn) hd.1 hr (Or.inr hc2)
      have hpos : 1 ≤ dval 0 r := by
        rcases Nat.eq_zero_or_pos (dval 0 r) with h | h
        · rw [h] at ih
          rw [← ih] at hc2
          exact absurd (by decide +kernel) hc2
        · exact h
      rw [decDigits, dif_neg (by omega), show (dval 0 r * 10 + (b.toNat - 48)) / 10 = dval 0 r by omega, show (dval 0 r * 10 + (b.toNat - 48)) % 10 = b.toNat - 48 by omega, hbe, ih]
theorem dval_lt (l : List UInt8) (h : l.all dig = true) : dval 0 l < 10 ^ l.length := by
  have := decFrom_lt l 0 (dval 0 l) (decFrom_dig l 0 h)
  omega
/-- behind a sign -/
def bare (l : List UInt8) : List UInt8 := match l with
  | 45 :: r => r
  | _ => l
/-- is it a number of at most k digits as Itoa writes it -/
def canB (k : Nat) (l : List UInt8) : Bool := !(decide (bare l = [])) && (decide ((bare l).length ≤ k) && ((bare l).all dig && ((decide ((bare l).length = 1) || decide ((bare l).head? ≠ some 48)) && !(decide (bare l = [48]) && decide (l ≠ [48])))))
def numOf (l : List UInt8) : Int := match atoiAll l with | .ok v => v | _ => 0
theorem atoi_digits (l : List UInt8) (hl : l.length ≤ 18) (h0 : l ≠ []) (hd : l.all dig = true) : atoiAll l = .ok (dval 0 l : Int) := by
  rw [atoiAll_short l hl]
  cases l with
  | nil => exact absurd rfl h0
  | cons b r =>
    have hb : dig b = true := by rw [List.all_cons, Bool.and_eq_true] at hd; exact hd.1
    have hb2 : 48 ≤ b.toNat := by
      unfold dig at hb
      rw [Bool.and_eq_true, decide_eq_true_eq, decide_eq_true_eq] at hb
      exact hb.1
    have n45 : (b == 45) = false := by
      rw [beq_eq_false_iff_ne]
      rintro rfl
      exact absurd hb2 (by decide)
    have n43 : (b == 43) = false := by
      rw [beq_eq_false_iff_ne]
      rintro rfl
      exact absurd hb2 (by decide)
    unfold atoi
    simp only [n45, n43, Bool.false_eq_true, if_false]
    unfold decNat
    rw [List.isEmpty_cons]
    simp only [Bool.false_eq_true, if_false]
    rw [decFrom_dig _ _ hd]
    rfl
end Go.Proofs.YtnnbhehaplphiaaGreatDoor.M
/-
  Numbers as texts: staff.nat's text and portref2.whole's text are the decimal digits.
-/
namespace Go.Proofs.YtnnbhehaplphiaaGreatDoor.M
open Go Go.Pu Go.Lib
set_option linter.unusedSimpArgs false
set_option linter.unusedVariables false

theorem dval_add (a : Nat) (l : List UInt8) : dval a l = a * 10 ^ l.length + dval 0 l := by
  induction l generalizing a with
  | nil => simp [dval]
  | cons b l ih =>
    have e : ∀ a, dval a (b :: l) = dval (a * 10 + (b.toNat - 48)) l := fun a => rfl
    rw [e, e, ih, ih (0 * 10 + (b.toNat - 48)), List.length_cons, Nat.pow_succ, Nat.add_mul, Nat.zero_mul, Nat.zero_add, Nat.mul_assoc, Nat.mul_comm 10]
    omega
theorem dval_app (l m : List UInt8) : dval 0 (l ++ m) = dval 0 l * 10 ^ m.length + dval 0 m := by
  have : dval 0 (l ++ m) = dval (dval 0 l) m := by unfold dval; rw [List.foldl_append]
  rw [this, dval_add]
theorem dval_head {c : UInt8} {l : List UInt8} : dval 0 (c :: l) = (c.toNat - 48) * 10 ^ l.length + dval 0 l := by
  have : dval 0 (c :: l) = dval (0 * 10 + (c.toNat - 48)) l := rfl
  rw [this, dval_add, Nat.zero_mul, Nat.zero_add]
/-- digits without a 0 ahead are the number's digits -/
theorem text_is {l : List UInt8} {n : Nat} (h : l.all dig = true) (h0 : l ≠ []) (h1 : l.length = 1 ∨ l.head? ≠ some 48) (hv : dval 0 l = n) : l = decDigits n := by
  rw [← hv]
  exact (digits_dec l.length l rfl h h0 h1).symm
theorem itoa_nat (n : Nat) : itoa (n : Int) = decDigits n := by
  unfold itoa
  rw [if_neg (by omega)]
  rfl

/-- the nine digits of a part -/
theorem pad_spec (a : Nat) (h : a < 1000000000) : ∃ y, itoa ((1000000000 + a : Nat) : Int) = 49 :: y ∧ y.all dig = true ∧ y.length = 9 ∧ dval 0 y = a := by
  rw [itoa_nat]
  obtain ⟨h1, h2, h3, _, h5⟩ := dec_digits (1000000000 + a)
  have h5 := (h5 (by omega))
  match hd : decDigits (1000000000 + a), h1, h2, h3, h5 with
  | [], _, _, h3, _ => exact absurd rfl h3
  | c :: y, h1, h2, _, h5 =>
    rw [List.all_cons, Bool.and_eq_true] at h1
    have hy := dval_lt y h1.2
    rw [dval_head] at h2
    have hc : 49 ≤ c.toNat ∧ c.toNat ≤ 57 := by
      have h6 := h1.1
      unfold dig at h6
      rw [Bool.and_eq_true, decide_eq_true_eq, decide_eq_true_eq] at h6
      have h7 : c ≠ 48 := by
        rintro rfl
        have := h5
        simp at this
      have h8 : c.toNat ≠ 48 := fun h => h7 (UInt8.toNat_inj.1 (by simpa using h))
      omega
    have hlen : y.length = 9 := by
      have hpos := Nat.mul_le_mul_right (10 ^ y.length) (show 1 ≤ c.toNat - 48 by omega)
      by_cases h6 : y.length ≤ 8
      · have h7 := Nat.pow_le_pow_right (n := 10) (by omega) h6
        have h8 := Nat.mul_le_mul_right (10 ^ y.length) (show c.toNat - 48 ≤ 9 by omega)
        omega
      · by_cases h7 : 10 ≤ y.length
        · have h8 := Nat.pow_le_pow_right (n := 10) (by omega) h7
          omega
        · omega
    rw [hlen] at h2 hy
    have hc2 : c.toNat = 49 := by omega
    obtain rfl : c = 49 := UInt8.toNat_inj.1 (by simpa using hc2)
    exact ⟨y, rfl, h1.2, hlen, by omega⟩

theorem ba_app (x y : List UInt8) : (⟨x.toArray⟩ : ByteArray) ++ (⟨y.toArray⟩ : ByteArray) = ⟨(x ++ y).toArray⟩ := by
  apply ByteArray.ext
  rw [ByteArray.data_append]
  simp
theorem ba_size (x : List UInt8) : (⟨x.toArray⟩ : ByteArray).size = x.length := by simp [ByteArray.size]

/-- text of a nat -/
theorem nat_text (a : List Int) (hd : Dig a) (ht : Trm a) (hl : a.length ≤ 200000) : staff_nat_text a = some ⟨(decDigits (nv a).toNat).toArray⟩ := by
  unfold staff_nat_text
  by_cases h0 : a.length = 0
  · obtain rfl := List.length_eq_zero_iff.1 h0
    rw [if_pos (by simp)]
    show _ = some (⟨(decDigits 0).toArray⟩ : ByteArray)
    rw [decDigits_one (by omega)]
    rfl
  rw [if_neg (by simpa using fun h => h0 (by simp [h]))]
  obtain ⟨n, hn⟩ : ∃ n, a.length = n + 1 := ⟨a.length - 1, by omega⟩
  have w1 : w64 ((a.length : Int) - 1) = (n : Int) := by rw [w64_id (by omega) (by omega)]; omega
  have w2 : w64 ((a.length : Int) - 2) = (n : Int) - 1 := by rw [w64_id (by omega) (by omega)]; omega
  have hx : a[n]? = some a[n] := List.getElem?_eq_getElem (by omega)
  have hxr := hd.at hx
  have hx0 : a[n] ≠ 0 := fun h => ht (by rw [List.getLast?_eq_getElem?, hn, Nat.add_sub_cancel, hx, h])
  have htop := nv_top hn hx
  generalize a[n] = x at hx hxr hx0 htop
  obtain ⟨X, rfl⟩ : ∃ X : Nat, x = (X : Int) := ⟨x.toNat, by omega⟩
  have hi : strconv_Itoa (X : Int) = some ⟨(decDigits X).toArray⟩ := by
    unfold strconv_Itoa
    rw [if_pos (by omega), itoa_nat]
  obtain ⟨d1, d2, d3, _, d5⟩ := dec_digits X
  have d5 := d5 (by omega)
  have hdl : (decDigits X).length ≤ 10 := by
    by_cases h : (decDigits X).length ≤ 10
    · exact h
    · exfalso
      match he : decDigits X, d1, d2, d5, h with
      | [], _, _, _, h => exact absurd h (by simp)
      | c :: y, d1, d2, d5, h =>
        rw [List.all_cons, Bool.and_eq_true] at d1
        rw [dval_head] at d2
        have h6 := d1.1
        unfold dig at h6
        rw [Bool.and_eq_true, decide_eq_true_eq, decide_eq_true_eq] at h6
        have h7 : c ≠ 48 := by
          rintro rfl
          simp at d5
        have h8 : c.toNat ≠ 48 := fun h => h7 (UInt8.toNat_inj.1 (by simpa using h))
        have hpos := Nat.mul_le_mul_right (10 ^ y.length) (show 1 ≤ c.toNat - 48 by omega)
        have h9 := Nat.pow_le_pow_right (n := 10) (by omega) (show 10 ≤ y.length by simp at h; omega)
        omega
  have hw : strings_Builder_WriteString ByteArray.empty ⟨(decDigits X).toArray⟩ = some (((decDigits X).length : Int), (), ⟨(decDigits X).toArray⟩) := by
    unfold strings_Builder_WriteString
    have hs := ba_size (decDigits X)
    rw [if_pos (by show 0 + (⟨(decDigits X).toArray⟩ : ByteArray).size ≤ _; rw [hs]; omega), hs]
    congr 3
  simp only [w1, w2, idx_nat, hx, Option.bind_some, hi, hw]
  refine whileB_el (s0 := ((n : Int) - 1, (⟨(decDigits X).toArray⟩ : ByteArray))) (fun o => o = some (⟨(decDigits (nv a).toNat).toArray⟩ : ByteArray))
    (fun s => ∃ (k : Nat) (l : List UInt8), s.1 = (k : Int) - 1 ∧ k ≤ n ∧ s.2 = ⟨l.toArray⟩ ∧ l.all dig = true ∧ l ≠ [] ∧ l.head? ≠ some 48 ∧ nv a = nv (a.take k) + bp k * (dval 0 l : Nat) ∧ l.length ≤ 10 + 9 * (n - k))
    (fun s => ∃ l : List UInt8, s.2 = ⟨l.toArray⟩ ∧ l.all dig = true ∧ l ≠ [] ∧ l.head? ≠ some 48 ∧ nv a = (dval 0 l : Nat)) (fun s => (s.1 + 1).toNat)
    ⟨n, decDigits X, rfl, Nat.le_refl _, rfl, d1, d3, d5, by rw [d2]; exact htop, by omega⟩ ?_ ?_
  · rintro ⟨i, bld⟩ ⟨k, l, hi, hk, hb, h1, h2, h3, h4, h5⟩
    dsimp only at hi hb ⊢
    subst hi hb
    cases k with
    | zero =>
      right
      refine ⟨_, rfl, l, rfl, h1, h2, h3, ?_⟩
      simpa [nv, bp] using h4
    | succ k =>
      left
      have e2 : ((k + 1 : Nat) : Int) - 1 = (k : Int) := by omega
      have e3 : decide ((0 : Int) ≤ (k : Int)) = true := by simp
      have hka : a[k]? = some a[k] := List.getElem?_eq_getElem (by omega)
      have hyr := hd.at hka
      have hta := nv_take_at hka
      rw [e2]
      simp only [e3, if_true, idx_nat, hka, Option.bind_some]
      generalize a[k] = y at hka hyr hta
      obtain ⟨Y, rfl⟩ : ∃ Y : Nat, y = (Y : Int) := ⟨y.toNat, by omega⟩
      obtain ⟨z, z1, z2, z3, z4⟩ := pad_spec Y (by omega)
      have w3 : w64 (1000000000 + (Y : Int)) = ((1000000000 + Y : Nat) : Int) := by rw [w64_id (by omega) (by omega)]; omega
      have w4 : w64 ((k : Int) - 1) = (k : Int) - 1 := w64_id (by omega) (by omega)
      have hi2 : strconv_Itoa ((1000000000 + Y : Nat) : Int) = some ⟨(49 :: z).toArray⟩ := by
        unfold strconv_Itoa
        rw [if_pos (by omega), z1]
      have hsl : sliceS (⟨(49 :: z).toArray⟩ : ByteArray) (some 1) none = some ⟨z.toArray⟩ := by
        unfold sliceS bounds
        rw [ba_size]
        simp only [Option.getD_some, Option.getD_none, List.length_cons]
        rw [if_pos (by omega)]
        simp
        apply ByteArray.ext
        simp [ByteArray.data_extract]
      have hw2 : strings_Builder_WriteString ⟨l.toArray⟩ ⟨z.toArray⟩ = some ((z.length : Int), (), ⟨(l ++ z).toArray⟩) := by
        unfold strings_Builder_WriteString
        rw [if_pos (by rw [ba_size, ba_size]; omega), ba_size, ba_app]
      simp only [w3, w4, hi2, hsl, hw2, Option.bind_some]
      refine ⟨_, rfl, ⟨k, l ++ z, rfl, by omega, rfl, by rw [List.all_append, h1, z2]; rfl, by simp [h2], ?_, ?_, by rw [List.length_append]; omega⟩, by show ((k : Int) - 1 + 1).toNat < ((k : Int) + 1).toNat; omega⟩
      · cases l with
        | nil => exact absurd rfl h2
        | cons c l => simpa using h3
      · rw [dval_app, z3, z4, h4, hta, bp_succ]
        have : ((dval 0 l * 10 ^ 9 + Y : Nat) : Int) = 1000000000 * (dval 0 l : Nat) + (Y : Int) := by
          rw [Int.natCast_add, Int.natCast_mul, Int.mul_comm]
          rfl
        rw [this, Int.mul_add]
        omega
  · rintro ⟨i, bld⟩ ⟨l, hb, h1, h2, h3, h4⟩
    dsimp only at hb ⊢
    subst hb
    have : l = decDigits (nv a).toNat := text_is h1 h2 (.inr h3) (by rw [h4]; rfl)
    rw [← this]
    rfl
end Go.Proofs.YtnnbhehaplphiaaGreatDoor.M

/-
  Numbers as texts: portref2.whole's text is the decimal digits.
-/
namespace Go.Proofs.YtnnbhehaplphiaaGreatDoor.M
open Go Go.Pu Go.Lib
set_option linter.unusedSimpArgs false
set_option linter.unusedVariables false

theorem cp_succ (k : Nat) (x : Int) : cp (k + 1) * x = cp k * (4294967296 * x) := by
  rw [cp, Int.mul_comm 4294967296 (cp k), Int.mul_assoc]
theorem drop_set_self {l : List UInt32} {k : Nat} {x : UInt32} (h : k < l.length) : (l.set k x).drop k = x :: l.drop (k + 1) := by
  rw [List.drop_eq_getElem_cons (by simpa using h)]
  congr 1
  · simp
  · rw [List.drop_set_of_lt (by omega)]
theorem lt_two_pow32 (l : List UInt32) : (wv l).toNat < 2 ^ (32 * l.length) := by
  have h := wv_lt l
  have e : ∀ k, cp k = ((2 ^ (32 * k) : Nat) : Int) := by
    intro k
    induction k with
    | zero => rfl
    | succ k ih =>
      rw [cp, ih, Nat.mul_succ, Nat.pow_add]
      simp
      omega
  rw [e] at h
  have := wv_nonneg l
  omega

/-- how the digits that are there, and the number that is left, make the number -/
structure Dg (N : Nat) (out : List UInt8) (R : Nat) : Prop where
  all : out.all dig = true
  val : N = dval 0 out.reverse + 10 ^ out.length * R
  last : R = 0 → out.getLast? ≠ some 48

theorem Dg.step {N R : Nat} {out : List UInt8} {c : UInt8} (h : Dg N out R) (hR : 0 < R) (hc : c.toNat = 48 + R % 10) : Dg N (out ++ [c]) (R / 10) := by
  have hd : dig c = true := by
    unfold dig
    rw [hc]
    simp
    omega
  refine ⟨by rw [List.all_append, h.all, List.all_cons, hd]; rfl, ?_, fun h0 => ?_⟩
  · rw [List.reverse_append, List.reverse_singleton, List.singleton_append, dval_head, List.length_reverse, List.length_append, List.length_singleton, Nat.pow_succ, h.val, hc]
    have : R = 10 * (R / 10) + R % 10 := (Nat.div_add_mod R 10).symm
    have e : 10 ^ out.length * R = 10 ^ out.length * (10 * (R / 10)) + 10 ^ out.length * (R % 10) := by rw [← Nat.mul_add, ← this]
    rw [e, Nat.mul_assoc, show 48 + R % 10 - 48 = R % 10 by omega, Nat.mul_comm (R % 10)]
    omega
  · rw [List.getLast?_append, List.getLast?_singleton]
    intro hh
    have : c = 48 := by simpa using hh
    rw [this] at hc
    have : (48 : UInt8).toNat = 48 := rfl
    omega
theorem Dg.done {N : Nat} {out : List UInt8} (h : Dg N out 0) (hN : 0 < N) : out.reverse = decDigits N := by
  have hv := h.val
  rw [Nat.mul_zero, Nat.add_zero] at hv
  have hne : out ≠ [] := by
    rintro rfl
    simp [dval] at hv
    omega
  refine text_is (by rw [List.all_reverse]; exact h.all) (by simpa using hne) (.inr ?_) hv.symm
  rw [List.head?_reverse]
  exact h.last rfl
theorem Dg.len {N R : Nat} {out : List UInt8} (h : Dg N out R) (hR : 0 < R) {L : Nat} (hL : N < 2 ^ L) : out.length ≤ L := by
  have h1 : 10 ^ out.length ≤ N := by
    have := Nat.mul_le_mul_left (10 ^ out.length) hR
    have := h.val
    omega
  have h2 : 2 ^ out.length ≤ 10 ^ out.length := Nat.pow_le_pow_left (by omega) _
  by_cases h3 : out.length ≤ L
  · exact h3
  · have := Nat.pow_le_pow_right (n := 2) (by omega) (show L ≤ out.length by omega)
    omega

/-- turning a list round in place -/
theorem rev_el {T : Type} {s0 : List UInt8} {b : List UInt8 × Int × Int → Option (Ctl (List UInt8 × Int × Int) T)} {G : T → Option ByteArray} {F : List UInt8 × Int × Int → Option ByteArray} (P : Option ByteArray → Prop) (hl : s0.length ≤ 1000000000)
    (hb1 : ∀ (s : List UInt8) (i j : Nat) (x y : UInt8), i < j → j < 1000000000 → s[i]? = some x → s[j]? = some y → b (s, (i : Int), (j : Int)) = some (.nx ((s.set i y).set j x, ((i + 1 : Nat) : Int), (j : Int) - 1)))
    (hb2 : ∀ (s : List UInt8) (i : Nat) (j : Int), j ≤ (i : Int) → b (s, (i : Int), j) = some (.bk (s, (i : Int), j)))
    (hF : ∀ i j, P (F (s0.reverse, i, j))) : P (Option.bind (whileB b (s0, 0, (s0.length : Int) - 1)) fun o => o.andThen G F) := by
  refine whileB_el P (fun s => ∃ k : Nat, s.2.1 = (k : Int) ∧ s.2.2 = (s0.length : Int) - 1 - (k : Int) ∧ 2 * k ≤ s0.length + 1 ∧ s.1.length = s0.length ∧ ∀ m, m < s0.length → s.1[m]? = if m < k ∨ s0.length - 1 - k < m then s0[s0.length - 1 - m]? else s0[m]?)
    (fun s => s.1 = s0.reverse) (fun s => (s.2.2 + 1).toNat) ⟨0, rfl, by simp, by omega, rfl, fun m hm => by rw [if_neg (by omega)]⟩ ?_ ?_
  · rintro ⟨s, i, j⟩ ⟨k, hi, hj, hk, hlen, hat⟩
    dsimp only at hi hj hlen hat ⊢
    subst hi hj
    by_cases hlt : (k : Int) < (s0.length : Int) - 1 - (k : Int)
    · left
      obtain ⟨m, hm⟩ : ∃ m : Nat, (s0.length : Int) - 1 - (k : Int) = (m : Int) := ⟨s0.length - 1 - k, by omega⟩
      have hsk := hat k (by omega)
      have hsm := hat m (by omega)
      rw [if_neg (by omega)] at hsk hsm
      have ek : s0[k]? = some s0[k] := List.getElem?_eq_getElem (by omega)
      have em : s0[m]? = some s0[m] := List.getElem?_eq_getElem (by omega)
      rw [ek] at hsk
      rw [em] at hsm
      rw [hm, hb1 s k m _ _ (by omega) (by omega) hsk hsm]
      refine ⟨_, rfl, ⟨k + 1, rfl, by show (m : Int) - 1 = _; omega, by omega, by simpa using hlen, fun q hq => ?_⟩, by show ((m : Int) - 1 + 1).toNat < ((m : Int) + 1).toNat; omega⟩
      show ((s.set k _).set m _)[q]? = _
      by_cases c1 : q = m
      · subst c1
        rw [List.getElem?_set_self (by simp; omega), if_pos (by omega), ← ek]
        congr 1
        omega
      · rw [List.getElem?_set_ne (by omega)]
        by_cases c2 : q = k
        · subst c2
          rw [List.getElem?_set_self (by omega), if_pos (by omega), ← em]
          congr 1
          omega
        · rw [List.getElem?_set_ne (by omega), hat q hq]
          by_cases c3 : q < k ∨ s0.length - 1 - k < q
          · rw [if_pos c3, if_pos (by omega)]
          · rw [if_neg c3, if_neg (by omega)]
    · right
      refine ⟨_, hb2 s k _ (by omega), ?_⟩
      show s = s0.reverse
      refine List.ext_getElem? fun q => ?_
      by_cases hq : q < s0.length
      · rw [hat q hq, List.getElem?_reverse hq]
        by_cases c3 : q < k ∨ s0.length - 1 - k < q
        · rw [if_pos c3]
        · rw [if_neg c3]
          congr 1
          omega
      · rw [List.getElem?_eq_none (by omega), List.getElem?_eq_none (by simp; omega)]
  · rintro ⟨s, i, j⟩ hs
    dsimp only at hs
    subst hs
    exact hF i j

/-- one part of the digits: the number divided by 10^9, part by part from the top -/
theorem down9_el {T R : Type} {a : List UInt32} {b : List UInt32 × Int × Int → Option (Ctl (List UInt32 × Int × Int) R)} {G : R → Option T} {F : List UInt32 × Int × Int → Option T} (P : Option T → Prop) (hl : a.length ≤ 1000000)
    (hb1 : ∀ (s : List UInt32) (c : Int) (k : Nat) (x : UInt32), 0 ≤ c → c < 1000000000 → k < 1000000 → s[k]? = some x → b (s, c, (k : Int)) = some (.nx (s.set k (toU32 ((c * 4294967296 + (x.toNat : Int)) / 1000000000)), (c * 4294967296 + (x.toNat : Int)) % 1000000000, (k : Int) - 1)))
    (hb2 : ∀ (s : List UInt32) (c : Int), b (s, c, -1) = some (.bk (s, c, -1)))
    (hF : ∀ s c i, s.length = a.length → 0 ≤ c → c < 1000000000 → wv a = 1000000000 * wv s + c → P (F (s, c, i))) : P (Option.bind (whileB b (a, 0, (a.length : Int) - 1)) fun o => o.andThen G F) := by
  refine whileB_el P (fun s => ∃ k : Nat, s.2.2 = (k : Int) - 1 ∧ k ≤ a.length ∧ s.1.length = a.length ∧ (0 ≤ s.2.1 ∧ s.2.1 < 1000000000) ∧ (∀ j, j < k → s.1[j]? = a[j]?) ∧ wv a = wv (a.take k) + cp k * (1000000000 * wv (s.1.drop k) + s.2.1))
    (fun s => s.1.length = a.length ∧ (0 ≤ s.2.1 ∧ s.2.1 < 1000000000) ∧ wv a = 1000000000 * wv s.1 + s.2.1) (fun s => (s.2.2 + 1).toNat)
    ⟨a.length, rfl, Nat.le_refl _, rfl, ⟨Int.le_refl _, by show (0 : Int) < _; decide⟩, fun j _ => rfl, by simp [wv]⟩ ?_ ?_
  · rintro ⟨s, c, i⟩ ⟨k, hi, hk, h1, h2, h3, h4⟩
    dsimp only at hi h1 h2 h3 h4 ⊢
    subst hi
    cases k with
    | zero =>
      right
      refine ⟨_, hb2 s c, h1, h2, ?_⟩
      simpa [wv, cp] using h4
    | succ k =>
      left
      have e2 : ((k + 1 : Nat) : Int) - 1 = (k : Int) := by omega
      have hka : a[k]? = some a[k] := List.getElem?_eq_getElem (by omega)
      have hsk := h3 k (by omega)
      have hta := wv_take_succ hka
      rw [hka] at hsk
      generalize a[k] = x at hka hsk hta
      have hx := u32_rng x
      rw [e2, hb1 s c k x h2.1 h2.2 (by omega) hsk]
      refine ⟨_, rfl, ⟨k, rfl, by omega, by simpa using h1, ⟨Int.emod_nonneg _ (by decide), Int.emod_lt_of_pos _ (by decide)⟩, fun j hj => ?_, ?_⟩, by show ((k : Int) - 1 + 1).toNat < ((k : Int) + 1).toNat; omega⟩
      · show (s.set k _)[j]? = _
        rw [List.getElem?_set_ne (by omega)]
        exact h3 j (by omega)
      · show wv a = wv (a.take k) + cp k * (1000000000 * wv ((s.set k (toU32 ((c * 4294967296 + (x.toNat : Int)) / 1000000000))).drop k) + (c * 4294967296 + (x.toNat : Int)) % 1000000000)
        rw [drop_set_self (by omega), h4, hta, cp_succ]
        have e : wv (toU32 ((c * 4294967296 + (x.toNat : Int)) / 1000000000) :: s.drop (k + 1)) = (c * 4294967296 + (x.toNat : Int)) / 1000000000 + 4294967296 * wv (s.drop (k + 1)) := by
          show ((toU32 ((c * 4294967296 + (x.toNat : Int)) / 1000000000)).toNat : Int) + _ = _
          rw [toU32_mod]
          have : (c * 4294967296 + (x.toNat : Int)) / 1000000000 % 4294967296 = (c * 4294967296 + (x.toNat : Int)) / 1000000000 := by omega
          rw [this]
        rw [e, Int.add_assoc, ← Int.mul_add]
        congr 2
        omega
  · rintro ⟨s, c, i⟩ ⟨h1, h2, h3⟩
    exact hF s c i h1 h2.1 h2.2 h3
end Go.Proofs.YtnnbhehaplphiaaGreatDoor.M

/-
  Numbers as texts: portref2.whole's text is the decimal digits (the whole).
-/
namespace Go.Proofs.YtnnbhehaplphiaaGreatDoor.M
open Go Go.Pu Go.Lib
set_option linter.unusedSimpArgs false
set_option linter.unusedVariables false

theorem setB_at {l : List UInt8} {k : Nat} (x : UInt8) (h : k < l.length) : setI l (k : Int) x = some (l.set k x) := by
  unfold setI
  rw [if_pos (by omega), Int.toNat_natCast]
theorem remU {p : Nat} : remK .u64 (p : Int) 10 = some ((p % 10 : Nat) : Int) := by
  unfold remK
  rw [if_neg (by decide)]
  congr 1
theorem quoU {p : Nat} (h : p < 18446744073709551616) : quoK .u64 (p : Int) 10 = some ((p / 10 : Nat) : Int) := by
  unfold quoK
  rw [if_neg (by decide)]
  congr 1
  have : Int.tdiv (p : Int) 10 = ((p / 10 : Nat) : Int) := rfl
  rw [this]
  exact wrapU64_id (by omega) (by omega)

theorem whole_text (a : List UInt32) (ht : TrmW a) (hl : a.length ≤ 200000) : portref2_whole_text a = some ⟨(decDigits (wv a).toNat).toArray⟩ := by
  unfold portref2_whole_text
  by_cases h0 : a.length = 0
  · obtain rfl := List.length_eq_zero_iff.1 h0
    rw [if_pos (by simp)]
    show _ = some (⟨(decDigits 0).toArray⟩ : ByteArray)
    rw [decDigits_one (by omega)]
    rfl
  rw [if_neg (by simpa using fun h => h0 (by simp [h]))]
  have hap : appendL 35184372088832 ([] : List UInt32) a = some a := by
    unfold appendL
    rw [if_pos (by simp; omega)]
    rfl
  rw [hap]
  simp only [Option.bind_some]
  have hNp : 0 < (wv a).toNat := by
    have h1 := wv_ge ht (by omega)
    have h2 := cp_pos (a.length - 1)
    omega
  have hNl := lt_two_pow32 a
  generalize hN : (wv a).toNat = N at hNp hNl ⊢
  refine whileB_el (s0 := (([] : List UInt8), a)) (fun o => o = some (⟨(decDigits N).toArray⟩ : ByteArray))
    (fun s => TrmW s.2 ∧ s.2.length ≤ a.length ∧ Dg N s.1 (wv s.2).toNat) (fun s => Dg N s.1 0 ∧ s.1.length ≤ 1000000000) (fun s => (wv s.2).toNat)
    ⟨ht, Nat.le_refl _, by rw [hN]; exact ⟨rfl, by simp [dval], fun h => by omega⟩⟩ ?_ ?_
  · rintro ⟨out, rest⟩ ⟨t1, t2, t3⟩
    dsimp only at t1 t2 t3 ⊢
    by_cases hr : 0 < rest.length
    · left
      have e : decide ((0 : Int) < (rest.length : Int)) = true := by rw [decide_eq_true_eq]; omega
      have hw : w64 ((rest.length : Int) - 1) = (rest.length : Int) - 1 := w64_id (by omega) (by omega)
      have hrp : 0 < (wv rest).toNat := by
        have h1 := wv_ge t1 hr
        have h2 := cp_pos (rest.length - 1)
        omega
      simp only [e, if_true, hw]
      refine down9_el (a := rest) (fun o => ∃ t : List UInt8 × List UInt32, (Option.bind o fun (s40 : List UInt8 × List UInt32) => some (Ctl.nx (R := ByteArray) (s40.1, s40.2))) = some (Ctl.nx t) ∧ (TrmW t.2 ∧ t.2.length ≤ a.length ∧ Dg N t.1 (wv t.2).toNat) ∧ (wv t.2).toNat < (wv rest).toNat) (by omega) ?_ ?_ ?_
      · intro s c k x c0 c1 hk hx
        have e3 : decide ((0 : Int) ≤ (k : Int)) = true := by simp
        have hxr := u32_rng x
        have w1 : w64 ((k : Int) - 1) = (k : Int) - 1 := w64_id (by omega) (by omega)
        have hm : 0 ≤ c * 4294967296 + (x.toNat : Int) := by omega
        have hq : quoK .u64 (c * 4294967296 + (x.toNat : Int)) 1000000000 = some ((c * 4294967296 + (x.toNat : Int)) / 1000000000) := by
          unfold quoK
          rw [if_neg (by decide), Int.tdiv_eq_ediv_of_nonneg hm]
          congr 1
          exact wrapU64_id (by omega) (by omega)
        have hrm : remK .u64 (c * 4294967296 + (x.toNat : Int)) 1000000000 = some ((c * 4294967296 + (x.toNat : Int)) % 1000000000) := by
          unfold remK
          rw [if_neg (by decide), Int.tmod_eq_emod_of_nonneg hm]
        simp only [e3, if_true, shl64 (show 0 ≤ c ∧ c < 4294967296 by omega), idx_nat, hx, Option.bind_some, w64u, or64 (show 0 ≤ c ∧ c < 4294967296 by omega) hxr, hq, hrm, setW_at _ (List.getElem?_eq_some_iff.1 hx).1, w1]
      · intro s c
        rfl
      · intro s c i hs c0 c1 hv
        obtain ⟨r, r1, r2, r3, r4⟩ := trim_spec s (by omega)
        dsimp only
        rw [r1]
        simp only [Option.bind_some]
        obtain ⟨p, rfl⟩ : ∃ p : Nat, c = (p : Int) := ⟨c.toNat, by omega⟩
        have hrn := wv_nonneg r
        obtain ⟨m, hm⟩ : ∃ m, m = (wv r).toNat := ⟨_, rfl⟩
        have hR : (wv rest).toNat = p + m * 10 ^ 9 := by
          rw [← r2] at hv
          omega
        have hmp : 0 < r.length → 0 < m := by
          intro h
          have h1 := wv_ge r3 h
          have h2 := cp_pos (r.length - 1)
          omega
        have hm0 : r.length = 0 → m = 0 := by
          intro h
          obtain rfl := List.length_eq_zero_iff.1 h
          simpa [wv] using hm
        refine whileB_el (s0 := (out, (p : Int), (0 : Int))) (fun o => ∃ t : List UInt8 × List UInt32, (Option.bind o fun (s40 : List UInt8 × List UInt32) => some (Ctl.nx (R := ByteArray) (s40.1, s40.2))) = some (Ctl.nx t) ∧ (TrmW t.2 ∧ t.2.length ≤ a.length ∧ Dg N t.1 (wv t.2).toNat) ∧ (wv t.2).toNat < (wv rest).toNat)
          (fun s => ∃ k q : Nat, s.2.2 = (k : Int) ∧ s.2.1 = (q : Int) ∧ k ≤ 9 ∧ q < 10 ^ (9 - k) ∧ Dg N s.1 (q + m * 10 ^ (9 - k))) (fun s => Dg N s.1 m) (fun s => (9 - s.2.2).toNat)
          ⟨0, p, rfl, rfl, by omega, by show p < 1000000000; omega, by rw [← hR]; exact t3⟩ ?_ ?_
        · rintro ⟨o, q', k'⟩ ⟨k, q, hk, hq, hk9, hq9, hdg⟩
          dsimp only at hk hq hdg ⊢
          subst hk hq
          by_cases hc : k < 9 ∧ (0 < r.length ∨ 0 < q)
          · left
            have e5 : ((decide ((k : Int) < 9)) && ((decide ((0 : Int) < (r.length : Int))) || (decide ((0 : Int) < (q : Int))))) = true := by
              simp only [Bool.and_eq_true, Bool.or_eq_true, decide_eq_true_eq]
              omega
            rw [if_pos e5]
            obtain ⟨j, hj⟩ : ∃ j, 9 - k = j + 1 := ⟨8 - k, by omega⟩
            have hj2 : 9 - (k + 1) = j := by omega
            rw [hj] at hdg hq9
            have hpj : 10 ^ (j + 1) = 10 * 10 ^ j := by rw [Nat.pow_succ, Nat.mul_comm]
            have hRR : q + m * 10 ^ (j + 1) = q + 10 * (m * 10 ^ j) := by rw [hpj, Nat.mul_left_comm]
            have hRpos : 0 < q + m * 10 ^ (j + 1) := by
              rcases hc.2 with h | h
              · have := Nat.mul_le_mul (hmp h) (Nat.pow_le_pow_right (n := 10) (by omega) (Nat.zero_le (j + 1)))
                omega
              · omega
            have hlen := hdg.len hRpos hNl
            have hqs : q < 18446744073709551616 := by
              have := Nat.pow_le_pow_right (n := 10) (by omega) (show j + 1 ≤ 9 by omega)
              omega
            have hw8 : IntKind.wrap .u64 (48 + ((q % 10 : Nat) : Int)) = ((48 + q % 10 : Nat) : Int) := by
              rw [wrapU64_id (by omega) (by omega)]
              omega
            have hc8 : (toU8 ((48 + q % 10 : Nat) : Int)).toNat = 48 + q % 10 := by
              have := toU8_small (x := ((48 + q % 10 : Nat) : Int)) (by omega) (by omega)
              omega
            have hapd : appendL 140737488355328 o [toU8 ((48 + q % 10 : Nat) : Int)] = some (o ++ [toU8 ((48 + q % 10 : Nat) : Int)]) := by
              unfold appendL
              rw [if_pos (by simp; omega)]
            have hwk : w64 ((k : Int) + 1) = ((k + 1 : Nat) : Int) := by rw [w64_id (by omega) (by omega)]; omega
            simp only [remU, quoU hqs, hw8, hapd, hwk, Option.bind_some]
            have hst := hdg.step (c := toU8 ((48 + q % 10 : Nat) : Int)) hRpos (by rw [hc8, hRR]; omega)
            refine ⟨_, rfl, ⟨k + 1, q / 10, rfl, rfl, by omega, by rw [hj2]; omega, ?_⟩, by show (9 - ((k + 1 : Nat) : Int)).toNat < (9 - (k : Int)).toNat; omega⟩
            rw [hj2]
            have : (q + m * 10 ^ (j + 1)) / 10 = q / 10 + m * 10 ^ j := by omega
            rw [this] at hst
            exact hst
          · right
            have e5 : ((decide ((k : Int) < 9)) && ((decide ((0 : Int) < (r.length : Int))) || (decide ((0 : Int) < (q : Int))))) = false := by
              rw [Bool.eq_false_iff]
              simp only [ne_eq, Bool.and_eq_true, Bool.or_eq_true, decide_eq_true_eq]
              omega
            rw [if_neg (by rw [e5]; decide)]
            refine ⟨_, rfl, ?_⟩
            show Dg N o m
            have : q + m * 10 ^ (9 - k) = m := by
              by_cases hk : k < 9
              · have h1 : r.length = 0 := by omega
                have h2 : q = 0 := by omega
                rw [hm0 h1, h2, Nat.zero_mul]
              · obtain rfl : k = 9 := by omega
                simp at hq9 ⊢
                omega
            rwa [this] at hdg
        · rintro ⟨o, q', k'⟩ hdg
          dsimp only at hdg ⊢
          refine ⟨_, rfl, ⟨r3, by show r.length ≤ a.length; omega, by rw [← hm]; exact hdg⟩, ?_⟩
          show (wv r).toNat < (wv rest).toNat
          rw [hR, ← hm]
          omega
    · right
      have e : decide ((0 : Int) < (rest.length : Int)) = false := by rw [decide_eq_false_iff_not]; omega
      have hr0 : rest = [] := List.eq_nil_of_length_eq_zero (by omega)
      subst hr0
      rw [e]
      refine ⟨_, rfl, t3, ?_⟩
      show out.length ≤ 1000000000
      have t3 : Dg N out 0 := t3
      have h1 := t3.done hNp
      have h2 : out.length = (decDigits N).length := by rw [← h1, List.length_reverse]
      by_cases h3 : out.length ≤ 1000000000
      · exact h3
      · exfalso
        -- the number has not so many digits
        obtain ⟨d1, d2, d3, _, d5⟩ := dec_digits N
        have d5 := d5 (by omega)
        rw [← h1] at d1 d2 d3 d5
        match he : out.reverse, d1, d2, d5 with
        | [], _, _, _ => exact d3 he
        | c :: y, d1, d2, d5 =>
          rw [List.all_cons, Bool.and_eq_true] at d1
          rw [dval_head] at d2
          have h6 := d1.1
          unfold dig at h6
          rw [Bool.and_eq_true, decide_eq_true_eq, decide_eq_true_eq] at h6
          have h7 : c ≠ 48 := by
            rintro rfl
            simp at d5
          have h8 : c.toNat ≠ 48 := fun h => h7 (UInt8.toNat_inj.1 (by simpa using h))
          have hpos := Nat.mul_le_mul_right (10 ^ y.length) (show 1 ≤ c.toNat - 48 by omega)
          have hyl : out.length = y.length + 1 := by rw [← List.length_reverse, he]; rfl
          have h9 : 2 ^ y.length ≤ 10 ^ y.length := Nat.pow_le_pow_left (by omega) _
          have h10 := Nat.pow_le_pow_right (n := 2) (by omega) (show 32 * a.length ≤ y.length by omega)
          omega
  · rintro ⟨out, rest⟩ ⟨hdg, hlen⟩
    dsimp only at hdg hlen ⊢
    have hw : w64 ((out.length : Int) - 1) = (out.length : Int) - 1 := w64_id (by omega) (by omega)
    rw [hw]
    refine rev_el (s0 := out) (fun o => o = some (⟨(decDigits N).toArray⟩ : ByteArray)) hlen ?_ ?_ ?_
    · intro s i j x y hij hj hx hy
      have e1 : decide ((i : Int) < (j : Int)) = true := by rw [decide_eq_true_eq]; omega
      have li := (List.getElem?_eq_some_iff.1 hx).1
      have lj := (List.getElem?_eq_some_iff.1 hy).1
      have e2 : (s.set i y)[j]? = some y := by rw [List.getElem?_set_ne (by omega)]; exact hy
      have w1 : w64 ((i : Int) + 1) = ((i + 1 : Nat) : Int) := by rw [w64_id (by omega) (by omega)]; omega
      have w2 : w64 ((j : Int) - 1) = (j : Int) - 1 := w64_id (by omega) (by omega)
      simp only [e1, if_true, idx_nat, hx, hy, Option.bind_some, setB_at _ li, e2, setB_at (l := s.set i y) _ (show j < (s.set i y).length by simpa using lj), w1, w2]
    · intro s i j h
      have e1 : decide ((i : Int) < j) = false := by rw [decide_eq_false_iff_not]; omega
      simp only [e1, Bool.false_eq_true, if_false]
    · intro i j
      rw [hdg.done hNp]
end Go.Proofs.YtnnbhehaplphiaaGreatDoor.M
