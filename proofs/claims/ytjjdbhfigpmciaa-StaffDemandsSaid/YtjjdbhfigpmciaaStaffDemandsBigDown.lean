/-
  Division of numbers in parts of 32 bits: the rest by a power of 2.
-/
import Derived.Test.YtjjdbhfigpmciaaStaffDemandsBigGuess
namespace Go.Proofs.Ytjjdbhfigpmciaa.M
open Go Go.Pu
set_option linter.unusedSimpArgs false
set_option linter.unusedVariables false

theorem down_spec (u : List UInt32) (n s : Nat) (hs : s < 32) (hu : n < u.length) (hl : u.length ≤ 1000000) (c0 : UInt32) (hc0 : u[0]? = some c0) :
    ∃ t, whileB (R := List UInt32 × List UInt32) (fun (s392 : List UInt32 × Int) => if (decide (s392.2 < (n : Int))) = true then Option.bind (idx u s392.2) fun x406 => Option.bind (shr .u32 (x406.toNat : Int) (IntKind.wrap .u64 (s : Int))) fun x411 => Option.bind (idx u (w64 (s392.2 + 1))) fun x412 => Option.bind (shl .u64 (IntKind.wrap .u64 (x412.toNat : Int)) (IntKind.wrap .u64 (32 - (IntKind.wrap .u64 (s : Int))))) fun x417 => Option.bind (idx s392.1 s392.2) fun x418 => Option.bind (setI s392.1 s392.2 (toU32 (bitsI .or .u32 x411 ((toU32 x417).toNat : Int)))) fun x426 => some (.nx (x426, w64 (s392.2 + 1))) else some (.bk (s392.1, s392.2))) (List.replicate n 0, 0) = some (.fin t) ∧
      t.1.length = n ∧ ∃ c : UInt32, u[n]? = some c ∧ 2 ^ s * wv t.1 + (c0.toNat : Int) % 2 ^ s = wv (u.take n) + cp n * ((c.toNat : Int) % 2 ^ s) := by
  have hp : (0 : Int) < 2 ^ s := Int.pow_pos (by decide)
  have hq : (0 : Int) < 2 ^ (32 - s) := Int.pow_pos (by decide)
  have hpq : (2 : Int) ^ s * 2 ^ (32 - s) = 4294967296 := by
    rw [← Int.pow_add, show s + (32 - s) = 32 by omega]
    rfl
  have ws : IntKind.wrap .u64 (s : Int) = (s : Int) := wrapU64_id (by omega) (by omega)
  have ws2 : IntKind.wrap .u64 (32 - (s : Int)) = ((32 - s : Nat) : Int) := by rw [wrapU64_id (by omega) (by omega)]; omega
  have hqle : (2 : Int) ^ (32 - s) ≤ 4294967296 := by
    have := Int.mul_le_mul_of_nonneg_right (show (1 : Int) ≤ 2 ^ s by omega) (Int.le_of_lt hq)
    omega
  obtain ⟨x, hx, t, rfl, h1, h2⟩ := whileB_spec (R := List UInt32 × List UInt32) (body := fun (s392 : List UInt32 × Int) => if (decide (s392.2 < (n : Int))) = true then Option.bind (idx u s392.2) fun x406 => Option.bind (shr .u32 (x406.toNat : Int) (IntKind.wrap .u64 (s : Int))) fun x411 => Option.bind (idx u (w64 (s392.2 + 1))) fun x412 => Option.bind (shl .u64 (IntKind.wrap .u64 (x412.toNat : Int)) (IntKind.wrap .u64 (32 - (IntKind.wrap .u64 (s : Int))))) fun x417 => Option.bind (idx s392.1 s392.2) fun x418 => Option.bind (setI s392.1 s392.2 (toU32 (bitsI .or .u32 x411 ((toU32 x417).toNat : Int)))) fun x426 => some (.nx (x426, w64 (s392.2 + 1))) else some (.bk (s392.1, s392.2)))
    (fun z => ∃ k : Nat, z.2 = (k : Int) ∧ k ≤ n ∧ z.1.length = n ∧ (∀ j, k ≤ j → j < n → z.1[j]? = some 0) ∧ ∃ c : UInt32, u[k]? = some c ∧ 2 ^ s * wv z.1 + (c0.toNat : Int) % 2 ^ s = wv (u.take k) + cp k * ((c.toNat : Int) % 2 ^ s)) (fun z => n - z.2.toNat)
    (fun x => ∃ t, x = .fin t ∧ t.1.length = n ∧ ∃ c : UInt32, u[n]? = some c ∧ 2 ^ s * wv t.1 + (c0.toNat : Int) % 2 ^ s = wv (u.take n) + cp n * ((c.toNat : Int) % 2 ^ s)) (s := (List.replicate n 0, 0))
    ⟨0, rfl, Nat.zero_le _, by simp, fun j _ hj => by simp [hj], c0, hc0, by simp [wv_zeros, wv, cp]⟩
    (by
      rintro ⟨z, i⟩ ⟨k, hi, hk, h1, h2, c, hc, h3⟩
      dsimp only at hi h1 h2 h3 ⊢
      subst hi
      by_cases hkn : k < n
      · have e1 : decide ((k : Int) < (n : Int)) = true := by rw [decide_eq_true_eq]; omega
        have hw : w64 ((k : Int) + 1) = ((k + 1 : Nat) : Int) := by rw [w64_id (by omega) (by omega)]; omega
        have hd : u[k + 1]? = some u[k + 1] := List.getElem?_eq_getElem (by omega)
        have hz := h2 k (Nat.le_refl _) hkn
        have htk := wv_take_succ hc
        generalize u[k + 1] = d at hd
        have hcr := u32_rng c
        have hdr := u32_rng d
        have hshr : shr .u32 (c.toNat : Int) (s : Int) = some ((c.toNat : Int) / 2 ^ s) := shrU32 hcr.1 hs
        have hdq : 0 ≤ (d.toNat : Int) * 2 ^ (32 - s) ∧ (d.toNat : Int) * 2 ^ (32 - s) ≤ 4294967295 * 4294967296 := ⟨Int.mul_nonneg hdr.1 (Int.le_of_lt hq), Int.mul_le_mul (by omega) hqle (Int.le_of_lt hq) (by decide)⟩
        have hshl : shl .u64 (d.toNat : Int) ((32 - s : Nat) : Int) = some ((d.toNat : Int) * 2 ^ (32 - s)) := by
          unfold shl
          rw [if_neg (by omega), Int.toNat_natCast]
          have e : min (32 - s) (IntKind.bits .u64) = 32 - s := Nat.min_eq_left (by show 32 - s ≤ 64; omega)
          rw [e]
          congr 1
          exact wrapU64_id hdq.1 (by omega)
        have hmod : ((d.toNat : Int) * 2 ^ (32 - s)) % 4294967296 = (d.toNat : Int) % 2 ^ s * 2 ^ (32 - s) := by
          rw [← hpq, Int.mul_comm (d.toNat : Int), Int.mul_comm (2 ^ s) (2 ^ (32 - s)), Int.mul_emod_mul_of_pos _ _ hq, Int.mul_comm]
        have hdiv : 0 ≤ (c.toNat : Int) / 2 ^ s ∧ (c.toNat : Int) / 2 ^ s < 2 ^ (32 - s) := by
          refine ⟨Int.ediv_nonneg hcr.1 (Int.le_of_lt hp), ?_⟩
          rw [Int.ediv_lt_iff_lt_mul hp, Int.mul_comm, hpq]
          exact hcr.2
        have hdm : 0 ≤ (d.toNat : Int) % 2 ^ s ∧ (d.toNat : Int) % 2 ^ s < 2 ^ s := ⟨Int.emod_nonneg _ (by omega), Int.emod_lt_of_pos _ hp⟩
        have hlt : (d.toNat : Int) % 2 ^ s * 2 ^ (32 - s) < 4294967296 := by
          rw [← hmod]
          omega
        have hor : bitsI .or .u32 ((c.toNat : Int) / 2 ^ s) ((toU32 ((d.toNat : Int) * 2 ^ (32 - s))).toNat : Int) = (c.toNat : Int) / 2 ^ s + (d.toNat : Int) % 2 ^ s * 2 ^ (32 - s) := by
          rw [toU32_mod, hmod]
          exact or32 hdiv ⟨hdm.1, hlt⟩ (by omega)
        have hsum : (c.toNat : Int) / 2 ^ s + (d.toNat : Int) % 2 ^ s * 2 ^ (32 - s) < 4294967296 := by
          have := Int.mul_le_mul_of_nonneg_right (show (d.toNat : Int) % 2 ^ s + 1 ≤ 2 ^ s by omega) (Int.le_of_lt hq)
          rw [Int.add_mul, hpq] at this
          omega
        have hnn : 0 ≤ (d.toNat : Int) % 2 ^ s * 2 ^ (32 - s) := Int.mul_nonneg hdm.1 (Int.le_of_lt hq)
        simp only [e1, if_true, idx_nat, hc, hd, hz, hw, ws, ws2, hshr, hshl, hor, w64u, Option.bind_some, setW_at _ (show k < z.length by omega)]
        refine ⟨_, rfl, ⟨k + 1, rfl, by omega, by simpa using h1, fun j hj hj2 => ?_, d, hd, ?_⟩, ?_⟩
        · show (z.set k _)[j]? = some 0
          rw [List.getElem?_set_ne (by omega)]
          exact h2 j (by omega) hj2
        · show 2 ^ s * wv (z.set k (toU32 ((c.toNat : Int) / 2 ^ s + (d.toNat : Int) % 2 ^ s * 2 ^ (32 - s)))) + (c0.toNat : Int) % 2 ^ s = _
          rw [wv_set z k _ 0 hz, toU32_mod, Int.emod_eq_of_lt (by omega) hsum, htk]
          have e0 : ((0 : UInt32).toNat : Int) = 0 := rfl
          rw [e0, Int.sub_zero, Int.mul_add]
          have e2 : 2 ^ s * (cp k * ((c.toNat : Int) / 2 ^ s + (d.toNat : Int) % 2 ^ s * 2 ^ (32 - s))) = cp k * ((c.toNat : Int) - (c.toNat : Int) % 2 ^ s) + cp (k + 1) * ((d.toNat : Int) % 2 ^ s) := by
            have e3 : 2 ^ s * ((c.toNat : Int) / 2 ^ s) = (c.toNat : Int) - (c.toNat : Int) % 2 ^ s := by have := Int.emod_add_mul_ediv (c.toNat : Int) (2 ^ s); omega
            have e4 : 2 ^ s * ((d.toNat : Int) % 2 ^ s * 2 ^ (32 - s)) = 4294967296 * ((d.toNat : Int) % 2 ^ s) := by rw [Int.mul_left_comm, hpq, Int.mul_comm]
            rw [Int.mul_left_comm, Int.mul_add, e3, e4, Int.mul_add, cp, Int.mul_comm 4294967296 (cp k), Int.mul_assoc]
          rw [e2, Int.mul_sub]
          omega
        · show n - ((k + 1 : Nat) : Int).toNat < n - (k : Int).toNat
          simp only [Int.toNat_natCast]
          omega
      · have e1 : decide ((k : Int) < (n : Int)) = false := by rw [decide_eq_false_iff_not]; omega
        simp only [e1, Bool.false_eq_true, if_false]
        obtain rfl : k = n := by omega
        exact ⟨_, rfl, _, rfl, h1, c, hc, h3⟩)
  exact ⟨t, hx, h1, h2⟩
end Go.Proofs.Ytjjdbhfigpmciaa.M
