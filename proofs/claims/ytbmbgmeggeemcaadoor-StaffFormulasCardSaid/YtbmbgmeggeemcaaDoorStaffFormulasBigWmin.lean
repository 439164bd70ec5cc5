/-
  Numbers in parts of 32 bits: differences.
-/
import Derived.Test.YtbmbgmeggeemcaaDoorStaffFormulasBigWh
namespace Go.Proofs.YtbmbgmeggeemcaaDoor.M
open Go Go.Pu
set_option linter.unusedSimpArgs false
set_option linter.unusedVariables false

theorem wminus_spec (a b : List UInt32) (tb : TrmW b) (la : a.length ≤ 100000) (hle : wv b ≤ wv a) : ∃ r, portref2_whole_minus a b = some r ∧ wv r = wv a - wv b ∧ TrmW r ∧ r.length ≤ a.length := by
  have hbl : b.length ≤ a.length := by
    by_cases h : b.length ≤ a.length
    · exact h
    · have h1 := wv_ge tb (by omega)
      have h2 := wv_lt a
      have h3 := cp_mono (show a.length ≤ b.length - 1 by omega)
      omega
  unfold portref2_whole_minus
  have hmk : makeL 70368744177664 (a.length : Int) (0 : UInt32) = some (List.replicate a.length 0) := by
    unfold makeL
    rw [if_pos (by omega), Int.toNat_natCast]
  rw [hmk]
  simp only [Option.bind_some]
  obtain ⟨t, ht, h1, h2, h3, _⟩ := rangeB_inv (R := List UInt32) (b := fun k14 s22 => Option.bind (idx a (k14 : Int)) fun x37 => Option.bind (if (decide ((k14 : Int) < (b.length : Int))) = true then Option.bind (idx b (k14 : Int)) fun x48 => some (IntKind.wrap .u64 (s22.2 + (IntKind.wrap .u64 (x48.toNat : Int)))) else some s22.2) fun s42 => Option.bind (if (decide ((IntKind.wrap .u64 (x37.toNat : Int)) < s42)) = true then some (1, IntKind.wrap .u64 ((IntKind.wrap .u64 (x37.toNat : Int)) + 4294967296)) else some (0, IntKind.wrap .u64 (x37.toNat : Int))) fun s55 => Option.bind (idx s22.1 (k14 : Int)) fun x63 => Option.bind (setI s22.1 (k14 : Int) (toU32 (IntKind.wrap .u64 (s55.2 - s42)))) fun x68 => some (.nx (x68, s55.1)))
    a.length (fun k s => s.1.length = a.length ∧ (0 ≤ s.2 ∧ s.2 ≤ 1) ∧ wv s.1 - cp k * s.2 = wv (a.take k) - wv (b.take k) ∧ ∀ j, k ≤ j → j < a.length → s.1[j]? = some 0) (s := (List.replicate a.length 0, 0)) ⟨by simp, by simp, by simp [wv_zeros, wv], fun j _ hj => by simp [hj]⟩
    (by
      rintro k ⟨s, c⟩ hk ⟨h1, h2, h3, h4⟩
      dsimp only at h1 h2 h3 h4
      have hak : a[k]? = some a[k] := List.getElem?_eq_getElem hk
      have hta := wv_take_succ hak
      have hs := h4 k (Nat.le_refl _) hk
      simp only [idx_nat, hak, Option.bind_some, w64u, hs]
      generalize a[k] = x at hak hta
      have hx := u32_rng x
      have fin : ∀ y : Int, 0 ≤ y → y < 4294967296 → wv (b.take (k + 1)) = wv (b.take k) + cp k * y → ∃ t : List UInt32 × Int, (Option.bind (if (decide ((x.toNat : Int) < c + y)) = true then some ((1 : Int), IntKind.wrap .u64 ((x.toNat : Int) + 4294967296)) else some (0, (x.toNat : Int))) fun s55 => Option.bind (setI s (k : Int) (toU32 (IntKind.wrap .u64 (s55.2 - (c + y))))) fun x68 => some (Ctl.nx (R := List UInt32) (x68, s55.1))) = some (.nx t) ∧ t.1.length = a.length ∧ (0 ≤ t.2 ∧ t.2 ≤ 1) ∧ wv t.1 - cp (k + 1) * t.2 = wv (a.take (k + 1)) - wv (b.take (k + 1)) ∧ ∀ j, k + 1 ≤ j → j < a.length → t.1[j]? = some 0 := by
        intro y y0 y1 hy
        by_cases hlt : (x.toNat : Int) < c + y
        · have w1 : IntKind.u64.wrap ((x.toNat : Int) + 4294967296) = (x.toNat : Int) + 4294967296 := wrapU64_id (by omega) (by omega)
          have w2 : IntKind.u64.wrap ((x.toNat : Int) + 4294967296 - (c + y)) = (x.toNat : Int) + 4294967296 - (c + y) := wrapU64_id (by omega) (by omega)
          simp only [hlt, decide_true, if_true, Option.bind_some, w1, w2, setW_at _ (show k < s.length by omega)]
          refine ⟨_, rfl, by simpa using h1, by simp, ?_, fun j hj hj2 => ?_⟩
          · show wv (s.set k (toU32 ((x.toNat : Int) + 4294967296 - (c + y)))) - cp (k + 1) * 1 = _
            rw [wv_set s k _ 0 hs, toU32_mod, hta, hy]
            have e0 : ((0 : UInt32).toNat : Int) = 0 := rfl
            have e1 : ((x.toNat : Int) + 4294967296 - (c + y)) % 4294967296 = (x.toNat : Int) + 4294967296 - (c + y) := by omega
            rw [e0, e1, Int.sub_zero, cp, Int.mul_one, Int.mul_sub, Int.mul_add, Int.mul_add, Int.mul_comm (cp k) 4294967296]
            omega
          · show (s.set k _)[j]? = some 0
            rw [List.getElem?_set_ne (by omega)]
            exact h4 j (by omega) hj2
        · have w2 : IntKind.u64.wrap ((x.toNat : Int) - (c + y)) = (x.toNat : Int) - (c + y) := wrapU64_id (by omega) (by omega)
          simp only [hlt, decide_false, Bool.false_eq_true, if_false, Option.bind_some, w2, setW_at _ (show k < s.length by omega)]
          refine ⟨_, rfl, by simpa using h1, by simp, ?_, fun j hj hj2 => ?_⟩
          · show wv (s.set k (toU32 ((x.toNat : Int) - (c + y)))) - cp (k + 1) * 0 = _
            rw [wv_set s k _ 0 hs, toU32_mod, hta, hy]
            have e0 : ((0 : UInt32).toNat : Int) = 0 := rfl
            have e1 : ((x.toNat : Int) - (c + y)) % 4294967296 = (x.toNat : Int) - (c + y) := by omega
            rw [e0, e1, Int.sub_zero, Int.mul_zero, Int.mul_sub, Int.mul_add]
            omega
          · show (s.set k _)[j]? = some 0
            rw [List.getElem?_set_ne (by omega)]
            exact h4 j (by omega) hj2
      by_cases hkb : k < b.length
      · have hbk : b[k]? = some b[k] := List.getElem?_eq_getElem hkb
        have e2 : decide ((k : Int) < (b.length : Int)) = true := by rw [decide_eq_true_eq]; omega
        have htb := wv_take_succ hbk
        simp only [e2, if_true, hbk, Option.bind_some, w64u]
        generalize b[k] = y at hbk htb
        have hy := u32_rng y
        have w2 : IntKind.u64.wrap (c + (y.toNat : Int)) = c + (y.toNat : Int) := wrapU64_id (by omega) (by omega)
        rw [w2]
        exact fin _ hy.1 hy.2 htb
      · have e2 : decide ((k : Int) < (b.length : Int)) = false := by rw [decide_eq_false_iff_not]; omega
        simp only [e2, Bool.false_eq_true, if_false, Option.bind_some]
        have := fin 0 (by omega) (by omega) (by rw [List.take_of_length_le (by omega), List.take_of_length_le (by omega)]; omega)
        rwa [Int.add_zero] at this)
  obtain ⟨s, c⟩ := t
  dsimp only at h1 h2 h3
  rw [ht]
  simp only [Option.bind_some, Lp.andThen_fin]
  obtain ⟨r, r1, r2, r3, r4⟩ := trim_spec s (by omega)
  rw [r1]
  refine ⟨r, rfl, ?_, r3, by omega⟩
  rw [List.take_length, List.take_of_length_le hbl] at h3
  have h5 := wv_lt s
  rw [h1] at h5
  have hc : c = 0 := by
    by_cases h : c = 0
    · exact h
    · have : c = 1 := by omega
      subst this
      omega
  subst hc
  rw [r2]
  omega

end Go.Proofs.YtbmbgmeggeemcaaDoor.M
