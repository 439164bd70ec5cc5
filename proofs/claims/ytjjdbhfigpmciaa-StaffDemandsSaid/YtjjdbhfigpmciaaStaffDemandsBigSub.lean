/-
  Division of numbers in parts of 32 bits: a multiple of the divisor taken away in place; the divisor put back.
-/
import Derived.Test.YtjjdbhfigpmciaaStaffDemandsBigLen
namespace Go.Proofs.Ytjjdbhfigpmciaa.M
open Go Go.Pu
set_option linter.unusedSimpArgs false
set_option linter.unusedVariables false

theorem wrapI64_id {x : Int} (h0 : -9223372036854775808 ≤ x) (h1 : x ≤ 9223372036854775807) : IntKind.wrap .i64 x = x := w64_id h0 h1
theorem sar64 (t : Int) : shr .i64 t 32 = some (t / 4294967296) := by
  unfold shr
  rw [if_neg (by decide)]
  congr 1
  rw [Int.fdiv_eq_ediv_of_nonneg _ (by decide)]
  rfl

theorem mulsub_spec (v u0 : List UInt32) (n j : Nat) (g : Int) (hv : n ≤ v.length) (hu : j + n ≤ u0.length) (hg : 0 ≤ g ∧ g < 4294967296) (hl : u0.length ≤ 1000000) :
    ∃ t, whileB (R := List UInt32 × List UInt32) (fun (s237 : List UInt32 × Int × Int) => if (decide (s237.2.2 < (n : Int))) = true then Option.bind (idx v s237.2.2) fun x251 => Option.bind (idx s237.1 (w64 (s237.2.2 + (j : Int)))) fun x256 => Option.bind (setI s237.1 (w64 (s237.2.2 + (j : Int))) (toU32 (w64 ((w64 ((IntKind.wrap .i64 (x256.toNat : Int)) - s237.2.1)) - (IntKind.wrap .i64 (bitsI .and .u64 (IntKind.wrap .u64 (g * (IntKind.wrap .u64 (x251.toNat : Int)))) 4294967295)))))) fun x265 => Option.bind (shr .u64 (IntKind.wrap .u64 (g * (IntKind.wrap .u64 (x251.toNat : Int)))) 32) fun x269 => Option.bind (shr .i64 (w64 ((w64 ((IntKind.wrap .i64 (x256.toNat : Int)) - s237.2.1)) - (IntKind.wrap .i64 (bitsI .and .u64 (IntKind.wrap .u64 (g * (IntKind.wrap .u64 (x251.toNat : Int)))) 4294967295)))) 32) fun x270 => some (.nx (x265, w64 ((IntKind.wrap .i64 x269) - x270), w64 (s237.2.2 + 1))) else some (.bk (s237.1, s237.2.1, s237.2.2))) (u0, 0, 0) = some (.fin t) ∧
      t.1.length = u0.length ∧ (0 ≤ t.2.1 ∧ t.2.1 < 4294967296) ∧ wv t.1 - cp (j + n) * t.2.1 = wv u0 - g * (cp j * wv (v.take n)) ∧ (∀ i, i < j ∨ j + n ≤ i → t.1[i]? = u0[i]?) := by
  obtain ⟨r, hr, t, rfl, h1, h2, h3, h4⟩ := whileB_spec (R := List UInt32 × List UInt32) (body := fun (s237 : List UInt32 × Int × Int) => if (decide (s237.2.2 < (n : Int))) = true then Option.bind (idx v s237.2.2) fun x251 => Option.bind (idx s237.1 (w64 (s237.2.2 + (j : Int)))) fun x256 => Option.bind (setI s237.1 (w64 (s237.2.2 + (j : Int))) (toU32 (w64 ((w64 ((IntKind.wrap .i64 (x256.toNat : Int)) - s237.2.1)) - (IntKind.wrap .i64 (bitsI .and .u64 (IntKind.wrap .u64 (g * (IntKind.wrap .u64 (x251.toNat : Int)))) 4294967295)))))) fun x265 => Option.bind (shr .u64 (IntKind.wrap .u64 (g * (IntKind.wrap .u64 (x251.toNat : Int)))) 32) fun x269 => Option.bind (shr .i64 (w64 ((w64 ((IntKind.wrap .i64 (x256.toNat : Int)) - s237.2.1)) - (IntKind.wrap .i64 (bitsI .and .u64 (IntKind.wrap .u64 (g * (IntKind.wrap .u64 (x251.toNat : Int)))) 4294967295)))) 32) fun x270 => some (.nx (x265, w64 ((IntKind.wrap .i64 x269) - x270), w64 (s237.2.2 + 1))) else some (.bk (s237.1, s237.2.1, s237.2.2)))
    (fun s => ∃ k : Nat, s.2.2 = (k : Int) ∧ k ≤ n ∧ s.1.length = u0.length ∧ (0 ≤ s.2.1 ∧ s.2.1 < 4294967296) ∧ wv s.1 - cp (j + k) * s.2.1 = wv u0 - g * (cp j * wv (v.take k)) ∧ ∀ i, i < j ∨ j + k ≤ i → s.1[i]? = u0[i]?) (fun s => n - s.2.2.toNat)
    (fun r => ∃ t, r = .fin t ∧ t.1.length = u0.length ∧ (0 ≤ t.2.1 ∧ t.2.1 < 4294967296) ∧ wv t.1 - cp (j + n) * t.2.1 = wv u0 - g * (cp j * wv (v.take n)) ∧ (∀ i, i < j ∨ j + n ≤ i → t.1[i]? = u0[i]?)) (s := (u0, 0, 0))
    ⟨0, rfl, Nat.zero_le _, rfl, ⟨Int.le_refl _, by show (0 : Int) < 4294967296; decide⟩, by simp [wv], fun _ _ => rfl⟩
    (by
      rintro ⟨s, c, i⟩ ⟨k, hi, hk, h1, h2, h3, h4⟩
      dsimp only at hi h1 h2 h3 h4 ⊢
      subst hi
      by_cases hkn : k < n
      · have e1 : decide ((k : Int) < (n : Int)) = true := by rw [decide_eq_true_eq]; omega
        have hvk : v[k]? = some v[k] := List.getElem?_eq_getElem (by omega)
        have hsk : s[j + k]? = some s[j + k] := List.getElem?_eq_getElem (by omega)
        have hw : w64 ((k : Int) + (j : Int)) = ((j + k : Nat) : Int) := by rw [w64_id (by omega) (by omega)]; omega
        have hw2 : w64 ((k : Int) + 1) = ((k + 1 : Nat) : Int) := by rw [w64_id (by omega) (by omega)]; omega
        have htk := wv_take_succ hvk
        simp only [e1, if_true, idx_nat, hvk, hsk, hw, hw2, Option.bind_some, w64u]
        generalize v[k] = y at hvk htk
        generalize s[j + k] = d at hsk
        have hy := u32_rng y
        have hd := u32_rng d
        have hp : 0 ≤ g * (y.toNat : Int) ∧ g * (y.toNat : Int) ≤ 4294967295 * 4294967295 := ⟨Int.mul_nonneg hg.1 hy.1, Int.mul_le_mul (by omega) (by omega) hy.1 (by decide)⟩
        have w1 : IntKind.u64.wrap (g * (y.toNat : Int)) = g * (y.toNat : Int) := wrapU64_id (by omega) (by omega)
        rw [w1]
        generalize hP : g * (y.toNat : Int) = p at hp
        rw [and64 (show 0 ≤ p ∧ p < 18446744073709551616 by omega)]
        have w2 : IntKind.wrap .i64 (d.toNat : Int) = (d.toNat : Int) := wrapI64_id (by omega) (by omega)
        have w3 : IntKind.wrap .i64 (p % 4294967296) = p % 4294967296 := wrapI64_id (by omega) (by omega)
        have w4 : w64 ((d.toNat : Int) - c) = (d.toNat : Int) - c := w64_id (by omega) (by omega)
        have w5 : w64 ((d.toNat : Int) - c - p % 4294967296) = (d.toNat : Int) - c - p % 4294967296 := w64_id (by omega) (by omega)
        have w6 : IntKind.wrap .i64 (p / 4294967296) = p / 4294967296 := wrapI64_id (by omega) (by omega)
        simp only [w2, w3, w4, w5, shr_u64 hp.1, sar64, Option.bind_some, w6, setW_at _ (show j + k < s.length by omega)]
        have w7 : w64 (p / 4294967296 - ((d.toNat : Int) - c - p % 4294967296) / 4294967296) = p / 4294967296 - ((d.toNat : Int) - c - p % 4294967296) / 4294967296 := w64_id (by omega) (by omega)
        rw [w7]
        refine ⟨_, rfl, ⟨k + 1, rfl, by omega, by simpa using h1, ?_, ?_, fun i hi => ?_⟩, ?_⟩
        · show 0 ≤ p / 4294967296 - ((d.toNat : Int) - c - p % 4294967296) / 4294967296 ∧ p / 4294967296 - ((d.toNat : Int) - c - p % 4294967296) / 4294967296 < 4294967296
          omega
        · show wv (s.set (j + k) (toU32 ((d.toNat : Int) - c - p % 4294967296))) - cp (j + (k + 1)) * (p / 4294967296 - ((d.toNat : Int) - c - p % 4294967296) / 4294967296) = wv u0 - g * (cp j * wv (v.take (k + 1)))
          rw [wv_set s _ _ d hsk, toU32_mod, htk]
          generalize hT : (d.toNat : Int) - c - p % 4294967296 = T
          have e2 : cp (j + (k + 1)) = cp (j + k) * 4294967296 := by rw [← Nat.add_assoc, cp, Int.mul_comm]
          have e3 : g * (cp j * (wv (v.take k) + cp k * (y.toNat : Int))) = g * (cp j * wv (v.take k)) + cp (j + k) * p := by
            rw [Int.mul_add, Int.mul_add, ← hP, cp_add, ← Int.mul_assoc (cp j), Int.mul_left_comm g (cp j * cp k)]
          rw [e2, e3, Int.mul_assoc]
          have e4 : cp (j + k) * (T % 4294967296 - (d.toNat : Int)) - cp (j + k) * (4294967296 * (p / 4294967296 - T / 4294967296)) = - (cp (j + k) * c) - cp (j + k) * p := by
            rw [← Int.mul_sub, ← Int.mul_neg, ← Int.mul_sub]
            congr 1
            omega
          omega
        · show (s.set (j + k) _)[i]? = u0[i]?
          rw [List.getElem?_set_ne (by omega)]
          exact h4 i (by omega)
        · show n - ((k + 1 : Nat) : Int).toNat < n - (k : Int).toNat
          simp only [Int.toNat_natCast]
          omega
      · have e1 : decide ((k : Int) < (n : Int)) = false := by rw [decide_eq_false_iff_not]; omega
        simp only [e1, Bool.false_eq_true, if_false]
        obtain rfl : k = n := by omega
        exact ⟨_, rfl, _, rfl, h1, h2, h3, h4⟩)
  exact ⟨t, hr, h1, h2, h3, h4⟩

theorem addback_spec (v u0 : List UInt32) (n j : Nat) (hv : n ≤ v.length) (hu : j + n ≤ u0.length) (hl : u0.length ≤ 1000000) :
    ∃ t, whileB (R := Empty) (fun (s309 : List UInt32 × Int × Int) => if (decide (s309.2.2 < (n : Int))) = true then Option.bind (idx s309.1 (w64 (s309.2.2 + (j : Int)))) fun x323 => Option.bind (idx v s309.2.2) fun x328 => Option.bind (setI s309.1 (w64 (s309.2.2 + (j : Int))) (toU32 (IntKind.wrap .u64 (s309.2.1 + (IntKind.wrap .u64 ((IntKind.wrap .u64 (x323.toNat : Int)) + (IntKind.wrap .u64 (x328.toNat : Int)))))))) fun x340 => Option.bind (shr .u64 (IntKind.wrap .u64 (s309.2.1 + (IntKind.wrap .u64 ((IntKind.wrap .u64 (x323.toNat : Int)) + (IntKind.wrap .u64 (x328.toNat : Int)))))) 32) fun x344 => some (.nx (x340, x344, w64 (s309.2.2 + 1))) else some (.bk (s309.1, s309.2.1, s309.2.2))) (u0, 0, 0) = some (.fin t) ∧
      t.1.length = u0.length ∧ (0 ≤ t.2.1 ∧ t.2.1 ≤ 1) ∧ wv t.1 + cp (j + n) * t.2.1 = wv u0 + cp j * wv (v.take n) ∧ (∀ i, i < j ∨ j + n ≤ i → t.1[i]? = u0[i]?) := by
  obtain ⟨r, hr, t, rfl, h1, h2, h3, h4⟩ := whileB_spec (R := Empty) (body := fun (s309 : List UInt32 × Int × Int) => if (decide (s309.2.2 < (n : Int))) = true then Option.bind (idx s309.1 (w64 (s309.2.2 + (j : Int)))) fun x323 => Option.bind (idx v s309.2.2) fun x328 => Option.bind (setI s309.1 (w64 (s309.2.2 + (j : Int))) (toU32 (IntKind.wrap .u64 (s309.2.1 + (IntKind.wrap .u64 ((IntKind.wrap .u64 (x323.toNat : Int)) + (IntKind.wrap .u64 (x328.toNat : Int)))))))) fun x340 => Option.bind (shr .u64 (IntKind.wrap .u64 (s309.2.1 + (IntKind.wrap .u64 ((IntKind.wrap .u64 (x323.toNat : Int)) + (IntKind.wrap .u64 (x328.toNat : Int)))))) 32) fun x344 => some (.nx (x340, x344, w64 (s309.2.2 + 1))) else some (.bk (s309.1, s309.2.1, s309.2.2)))
    (fun s => ∃ k : Nat, s.2.2 = (k : Int) ∧ k ≤ n ∧ s.1.length = u0.length ∧ (0 ≤ s.2.1 ∧ s.2.1 ≤ 1) ∧ wv s.1 + cp (j + k) * s.2.1 = wv u0 + cp j * wv (v.take k) ∧ ∀ i, i < j ∨ j + k ≤ i → s.1[i]? = u0[i]?) (fun s => n - s.2.2.toNat)
    (fun r => ∃ t, r = .fin t ∧ t.1.length = u0.length ∧ (0 ≤ t.2.1 ∧ t.2.1 ≤ 1) ∧ wv t.1 + cp (j + n) * t.2.1 = wv u0 + cp j * wv (v.take n) ∧ (∀ i, i < j ∨ j + n ≤ i → t.1[i]? = u0[i]?)) (s := (u0, 0, 0))
    ⟨0, rfl, Nat.zero_le _, rfl, ⟨Int.le_refl _, by show (0 : Int) ≤ 1; decide⟩, by simp [wv], fun _ _ => rfl⟩
    (by
      rintro ⟨s, c, i⟩ ⟨k, hi, hk, h1, h2, h3, h4⟩
      dsimp only at hi h1 h2 h3 h4 ⊢
      subst hi
      by_cases hkn : k < n
      · have e1 : decide ((k : Int) < (n : Int)) = true := by rw [decide_eq_true_eq]; omega
        have hvk : v[k]? = some v[k] := List.getElem?_eq_getElem (by omega)
        have hsk : s[j + k]? = some s[j + k] := List.getElem?_eq_getElem (by omega)
        have hw : w64 ((k : Int) + (j : Int)) = ((j + k : Nat) : Int) := by rw [w64_id (by omega) (by omega)]; omega
        have hw2 : w64 ((k : Int) + 1) = ((k + 1 : Nat) : Int) := by rw [w64_id (by omega) (by omega)]; omega
        have htk := wv_take_succ hvk
        simp only [e1, if_true, idx_nat, hvk, hsk, hw, hw2, Option.bind_some, w64u]
        generalize v[k] = y at hvk htk
        generalize s[j + k] = d at hsk
        have hy := u32_rng y
        have hd := u32_rng d
        have w1 : IntKind.u64.wrap ((d.toNat : Int) + (y.toNat : Int)) = (d.toNat : Int) + (y.toNat : Int) := wrapU64_id (by omega) (by omega)
        have w2 : IntKind.u64.wrap (c + ((d.toNat : Int) + (y.toNat : Int))) = c + ((d.toNat : Int) + (y.toNat : Int)) := wrapU64_id (by omega) (by omega)
        have hm : 0 ≤ c + ((d.toNat : Int) + (y.toNat : Int)) := by omega
        simp only [w1, w2, shr_u64 hm, Option.bind_some, setW_at _ (show j + k < s.length by omega)]
        refine ⟨_, rfl, ⟨k + 1, rfl, by omega, by simpa using h1, ?_, ?_, fun i hi => ?_⟩, ?_⟩
        · show 0 ≤ (c + ((d.toNat : Int) + (y.toNat : Int))) / 4294967296 ∧ (c + ((d.toNat : Int) + (y.toNat : Int))) / 4294967296 ≤ 1
          omega
        · show wv (s.set (j + k) (toU32 (c + ((d.toNat : Int) + (y.toNat : Int))))) + cp (j + (k + 1)) * ((c + ((d.toNat : Int) + (y.toNat : Int))) / 4294967296) = _
          refine part_step hsk hm ?_
          have e2 : c + ((d.toNat : Int) + (y.toNat : Int)) - (d.toNat : Int) = c + (y.toNat : Int) := by omega
          rw [e2, htk, Int.mul_add, Int.mul_add, cp_add, Int.mul_assoc (cp j) (cp k) (y.toNat : Int), ← cp_add]
          omega
        · show (s.set (j + k) _)[i]? = u0[i]?
          rw [List.getElem?_set_ne (by omega)]
          exact h4 i (by omega)
        · show n - ((k + 1 : Nat) : Int).toNat < n - (k : Int).toNat
          simp only [Int.toNat_natCast]
          omega
      · have e1 : decide ((k : Int) < (n : Int)) = false := by rw [decide_eq_false_iff_not]; omega
        simp only [e1, Bool.false_eq_true, if_false]
        obtain rfl : k = n := by omega
        exact ⟨_, rfl, _, rfl, h1, h2, h3, h4⟩)
  exact ⟨t, hr, h1, h2, h3, h4⟩
end Go.Proofs.Ytjjdbhfigpmciaa.M
