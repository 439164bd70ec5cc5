/-
  Numbers in parts of 32 bits (portref2.whole): bits, division by one part.
-/
import Derived.Test.YtnnbhehaplphiaaGreatDoorRatioSumsBigWh
namespace Go.Proofs.YtnnbhehaplphiaaGreatDoor.M
open Go Go.Pu
set_option linter.unusedSimpArgs false
set_option linter.unusedVariables false

theorem shl64 {x : Int} (h : 0 ≤ x ∧ x < 4294967296) : shl .u64 x 32 = some (x * 4294967296) := by
  unfold shl
  rw [if_neg (by decide)]
  congr 1
  have e : x * 2 ^ min (Int.toNat 32) (IntKind.bits .u64) = x * 4294967296 := rfl
  rw [e]
  exact wrapU64_id (by omega) (by omega)

theorem ofInt_toNat {x : Int} (h0 : 0 ≤ x) (h1 : x < 18446744073709551616) : (BitVec.ofInt 64 x).toNat = x.toNat := by
  rw [BitVec.toNat_ofInt]
  have : x % ((2 ^ 64 : Nat) : Int) = x := Int.emod_eq_of_lt h0 (by simpa using h1)
  rw [this]

theorem or64 {x y : Int} (hx : 0 ≤ x ∧ x < 4294967296) (hy : 0 ≤ y ∧ y < 4294967296) : bitsI .or .u64 (x * 4294967296) y = x * 4294967296 + y := by
  have e : bitsI .or .u64 (x * 4294967296) y = IntKind.u64.wrap ((BitVec.ofInt 64 (x * 4294967296) ||| BitVec.ofInt 64 y).toNat : Int) := rfl
  rw [e, BitVec.toNat_or, ofInt_toNat (by omega) (by omega), ofInt_toNat (by omega) (by omega)]
  obtain ⟨a, rfl⟩ := Int.eq_ofNat_of_zero_le hx.1
  obtain ⟨b, rfl⟩ := Int.eq_ofNat_of_zero_le hy.1
  have h1 : ((a : Int) * 4294967296).toNat = a <<< 32 := by
    rw [Nat.shiftLeft_eq]
    omega
  have h2 : (b : Int).toNat = b := Int.toNat_natCast b
  rw [h1, h2, ← Nat.shiftLeft_add_eq_or_of_lt (by omega : b < 2 ^ 32), Nat.shiftLeft_eq]
  have h3 : ((a * 2 ^ 32 + b : Nat) : Int) = (a : Int) * 4294967296 + (b : Int) := by
    rw [Int.natCast_add, Int.natCast_mul]
    rfl
  rw [h3]
  exact wrapU64_id (by omega) (by omega)
theorem and64 {p : Int} (hp : 0 ≤ p ∧ p < 18446744073709551616) : bitsI .and .u64 p 4294967295 = p % 4294967296 := by
  have e : bitsI .and .u64 p 4294967295 = IntKind.u64.wrap ((BitVec.ofInt 64 p &&& BitVec.ofInt 64 4294967295).toNat : Int) := rfl
  rw [e, BitVec.toNat_and, ofInt_toNat hp.1 hp.2, ofInt_toNat (by decide) (by decide)]
  obtain ⟨a, rfl⟩ := Int.eq_ofNat_of_zero_le hp.1
  have h1 : (4294967295 : Int).toNat = 2 ^ 32 - 1 := rfl
  rw [h1, Int.toNat_natCast, Nat.and_two_pow_sub_one_eq_mod]
  have h3 : ((a % 2 ^ 32 : Nat) : Int) = (a : Int) % 4294967296 := by
    rw [Int.natCast_emod]
    rfl
  rw [h3]
  exact wrapU64_id (by omega) (by omega)

/-- division by one part -/
theorem div_one (a : List UInt32) (d : UInt32) (hd : d ≠ 0) (la : a.length ≤ 100000) :
    ∃ t, whileB (R := List UInt32 × List UInt32) (fun (s40 : List UInt32 × Int × Int) => if (decide ((0 : Int) ≤ s40.2.2)) = true then Option.bind (shl .u64 s40.2.1 32) fun x54 => Option.bind (idx a s40.2.2) fun x55 => Option.bind (idx [d] 0) fun x59 => Option.bind (quoK .u64 (bitsI .or .u64 x54 (IntKind.wrap .u64 (x55.toNat : Int))) (IntKind.wrap .u64 (x59.toNat : Int))) fun x63 => Option.bind (idx s40.1 s40.2.2) fun x64 => Option.bind (setI s40.1 s40.2.2 (toU32 x63)) fun x69 => Option.bind (remK .u64 (bitsI .or .u64 x54 (IntKind.wrap .u64 (x55.toNat : Int))) (IntKind.wrap .u64 (x59.toNat : Int))) fun x76 => some (.nx (x69, x76, w64 (s40.2.2 - 1))) else some (.bk (s40.1, s40.2.1, s40.2.2))) (List.replicate a.length 0, 0, (a.length : Int) - 1) = some (.fin t) ∧
      t.1.length = a.length ∧ (0 ≤ t.2.1 ∧ t.2.1 < (d.toNat : Int)) ∧ wv t.1 * (d.toNat : Int) + t.2.1 = wv a := by
  have hdr := u32_rng d
  have hd0 : (d.toNat : Int) ≠ 0 := fun h => hd (u32_ext (by simpa using h))
  obtain ⟨r, hr, t, rfl, h1, h2, h3⟩ := whileB_spec (R := List UInt32 × List UInt32) (body := fun (s40 : List UInt32 × Int × Int) => if (decide ((0 : Int) ≤ s40.2.2)) = true then Option.bind (shl .u64 s40.2.1 32) fun x54 => Option.bind (idx a s40.2.2) fun x55 => Option.bind (idx [d] 0) fun x59 => Option.bind (quoK .u64 (bitsI .or .u64 x54 (IntKind.wrap .u64 (x55.toNat : Int))) (IntKind.wrap .u64 (x59.toNat : Int))) fun x63 => Option.bind (idx s40.1 s40.2.2) fun x64 => Option.bind (setI s40.1 s40.2.2 (toU32 x63)) fun x69 => Option.bind (remK .u64 (bitsI .or .u64 x54 (IntKind.wrap .u64 (x55.toNat : Int))) (IntKind.wrap .u64 (x59.toNat : Int))) fun x76 => some (.nx (x69, x76, w64 (s40.2.2 - 1))) else some (.bk (s40.1, s40.2.1, s40.2.2)))
    (fun s => ∃ k : Nat, s.2.2 = (k : Int) - 1 ∧ k ≤ a.length ∧ s.1.length = a.length ∧ (0 ≤ s.2.1 ∧ s.2.1 < (d.toNat : Int)) ∧ (∀ j, j < k → s.1[j]? = some 0) ∧ wv s.1 * (d.toNat : Int) + cp k * s.2.1 + wv (a.take k) = wv a) (fun s => (s.2.2 + 1).toNat)
    (fun r => ∃ t, r = .fin t ∧ t.1.length = a.length ∧ (0 ≤ t.2.1 ∧ t.2.1 < (d.toNat : Int)) ∧ wv t.1 * (d.toNat : Int) + t.2.1 = wv a) (s := (List.replicate a.length 0, 0, (a.length : Int) - 1))
    ⟨a.length, rfl, Nat.le_refl _, by simp, ⟨Int.le_refl _, by show (0 : Int) < (d.toNat : Int); omega⟩, fun j hj => by simp [hj], by simp [wv_zeros]⟩
    (by
      rintro ⟨s, c, i⟩ ⟨k, hi, hk, h1, h2, h3, h4⟩
      dsimp only at hi h1 h2 h3 h4 ⊢
      subst hi
      cases k with
      | zero => exact ⟨.bk (s, c, ((0 : Nat) : Int) - 1), rfl, _, rfl, h1, h2, by simpa [wv, cp] using h4⟩
      | succ k =>
        have e2 : ((k + 1 : Nat) : Int) - 1 = (k : Int) := by omega
        have e3 : decide ((0 : Int) ≤ (k : Int)) = true := by simp
        have hw : w64 ((k : Int) - 1) = (k : Int) - 1 := w64_id (by omega) (by omega)
        have hka : a[k]? = some a[k] := List.getElem?_eq_getElem (by omega)
        have hs := h3 k (by omega)
        have hta := wv_take_succ hka
        have hi0 : idx [d] 0 = some d := rfl
        rw [e2]
        simp only [e3, if_true, shl64 (show 0 ≤ c ∧ c < 4294967296 by omega), idx_nat, hka, hi0, hs, Option.bind_some, w64u, hw]
        generalize a[k] = x at hka hta
        have hx := u32_rng x
        rw [or64 (show 0 ≤ c ∧ c < 4294967296 by omega) hx]
        have hm : 0 ≤ c * 4294967296 + (x.toNat : Int) := by omega
        obtain ⟨q1, q2, _⟩ := tdiv_spec (c * 4294967296 + (x.toNat : Int)) (d.toNat : Int) (by omega)
        obtain ⟨q3, q4, q5, q6, q7⟩ := q2 hm
        generalize hq : Int.tdiv (c * 4294967296 + (x.toNat : Int)) (d.toNat : Int) = q at q1 q3 q6
        generalize hrm : Int.tmod (c * 4294967296 + (x.toNat : Int)) (d.toNat : Int) = rm at q1 q4 q5 q7
        have hq2 : q < 4294967296 := by
          by_cases h : q < 4294967296
          · exact h
          · have h5 := Int.mul_le_mul_of_nonneg_left (show (4294967296 : Int) ≤ q by omega) (show 0 ≤ (d.toNat : Int) by omega)
            have h6 := Int.mul_le_mul_of_nonneg_right (show c + 1 ≤ (d.toNat : Int) by omega) (show (0 : Int) ≤ 4294967296 by decide)
            omega
        have hquo : quoK .u64 (c * 4294967296 + (x.toNat : Int)) (d.toNat : Int) = some q := by
          unfold quoK
          rw [if_neg hd0, hq]
          congr 1
          exact wrapU64_id q3 (by omega)
        have hrem : remK .u64 (c * 4294967296 + (x.toNat : Int)) (d.toNat : Int) = some rm := by
          unfold remK
          rw [if_neg hd0, hrm]
        simp only [hquo, hrem, Option.bind_some, setW_at _ (show k < s.length by omega)]
        refine ⟨_, rfl, ⟨k, rfl, by omega, by simpa using h1, ⟨q4, q5⟩, fun j hj => ?_, ?_⟩, ?_⟩
        · show (s.set k _)[j]? = some 0
          rw [List.getElem?_set_ne (by omega)]
          exact h3 j (by omega)
        · show wv (s.set k (toU32 q)) * (d.toNat : Int) + cp k * rm + wv (a.take k) = wv a
          rw [wv_set s k _ 0 hs, toU32_mod]
          have e0 : ((0 : UInt32).toNat : Int) = 0 := rfl
          have e1 : q % 4294967296 = q := by omega
          rw [e0, e1, Int.sub_zero, Int.add_mul]
          have e5 : cp k * q * (d.toNat : Int) + cp k * rm = cp (k + 1) * c + cp k * (x.toNat : Int) := by
            have : cp (k + 1) * c = cp k * (c * 4294967296) := by rw [cp, Int.mul_comm 4294967296 (cp k), Int.mul_assoc, Int.mul_comm 4294967296 c]
            rw [this, ← Int.mul_add, ← q1, Int.mul_add, Int.mul_assoc, Int.mul_comm q]
          rw [hta] at h4
          omega
        · show ((k : Int) - 1 + 1).toNat < ((k : Int) + 1).toNat
          omega)
  exact ⟨t, hr, h1, h2, h3⟩
end Go.Proofs.YtnnbhehaplphiaaGreatDoor.M
