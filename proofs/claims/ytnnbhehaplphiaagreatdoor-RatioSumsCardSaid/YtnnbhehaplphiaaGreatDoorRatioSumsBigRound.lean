/-
  Division of numbers in parts of 32 bits: one part of the quotient.
-/
import Derived.Test.YtnnbhehaplphiaaGreatDoorRatioSumsBigB
namespace Go.Proofs.YtnnbhehaplphiaaGreatDoor.M
open Go Go.Pu
set_option linter.unusedSimpArgs false
set_option linter.unusedVariables false

noncomputable def byBody (v : List UInt32) (n : Int) : List UInt32 × List UInt32 × Int → Option (Ctl (List UInt32 × List UInt32 × Int) (List UInt32 × List UInt32)) := fun (s136 : List UInt32 × List UInt32 × Int) => if (decide ((0 : Int) ≤ s136.2.2)) = true then Option.bind (idx s136.1 (w64 (s136.2.2 + n))) fun x152 => Option.bind (shl .u64 (IntKind.wrap .u64 (x152.toNat : Int)) 32) fun x157 => Option.bind (idx s136.1 (w64 ((w64 (s136.2.2 + n)) - 1))) fun x158 => Option.bind (idx v (w64 (n - 1))) fun x166 => Option.bind (quoK .u64 (bitsI .or .u64 x157 (IntKind.wrap .u64 (x158.toNat : Int))) (IntKind.wrap .u64 (x166.toNat : Int))) fun x171 => Option.bind (remK .u64 (bitsI .or .u64 x157 (IntKind.wrap .u64 (x158.toNat : Int))) (IntKind.wrap .u64 (x166.toNat : Int))) fun x176 => Option.bind (whileB (R := List UInt32 × List UInt32) (fun (s189 : Int × Int) => Option.bind (if (decide ((4294967296 : Int) ≤ s189.1)) = true then (some true) else (Option.bind (idx v (w64 (n - 2))) fun x202 => Option.bind (shl .u64 s189.2 32) fun x207 => Option.bind (idx s136.1 (w64 ((w64 (s136.2.2 + n)) - 2))) fun x208 => some (decide ((bitsI .or .u64 x207 (IntKind.wrap .u64 (x208.toNat : Int))) < (IntKind.wrap .u64 (s189.1 * (IntKind.wrap .u64 (x202.toNat : Int)))))))) fun s201 => if s201 = true then if (decide ((4294967296 : Int) ≤ (IntKind.wrap .u64 (s189.2 + (IntKind.wrap .u64 (x166.toNat : Int)))))) = true then some (.bk (IntKind.wrap .u64 (s189.1 - 1), IntKind.wrap .u64 (s189.2 + (IntKind.wrap .u64 (x166.toNat : Int))))) else some (.nx (IntKind.wrap .u64 (s189.1 - 1), IntKind.wrap .u64 (s189.2 + (IntKind.wrap .u64 (x166.toNat : Int))))) else some (.bk (s189.1, s189.2))) (x171, x176)) fun o180 => o180.andThen (fun y => some (.rt y)) fun s181 => Option.bind (whileB (R := List UInt32 × List UInt32) (fun (s237 : List UInt32 × Int × Int) => if (decide (s237.2.2 < n)) = true then Option.bind (idx v s237.2.2) fun x251 => Option.bind (idx s237.1 (w64 (s237.2.2 + s136.2.2))) fun x256 => Option.bind (setI s237.1 (w64 (s237.2.2 + s136.2.2)) (toU32 (w64 ((w64 ((IntKind.wrap .i64 (x256.toNat : Int)) - s237.2.1)) - (IntKind.wrap .i64 (bitsI .and .u64 (IntKind.wrap .u64 (s181.1 * (IntKind.wrap .u64 (x251.toNat : Int)))) 4294967295)))))) fun x265 => Option.bind (shr .u64 (IntKind.wrap .u64 (s181.1 * (IntKind.wrap .u64 (x251.toNat : Int)))) 32) fun x269 => Option.bind (shr .i64 (w64 ((w64 ((IntKind.wrap .i64 (x256.toNat : Int)) - s237.2.1)) - (IntKind.wrap .i64 (bitsI .and .u64 (IntKind.wrap .u64 (s181.1 * (IntKind.wrap .u64 (x251.toNat : Int)))) 4294967295)))) 32) fun x270 => some (.nx (x265, w64 ((IntKind.wrap .i64 x269) - x270), w64 (s237.2.2 + 1))) else some (.bk (s237.1, s237.2.1, s237.2.2))) (s136.1, 0, 0)) fun o226 => o226.andThen (fun y => some (.rt y)) fun s227 => Option.bind (idx s227.1 (w64 (s136.2.2 + n))) fun x274 => Option.bind (setI s227.1 (w64 (s136.2.2 + n)) (toU32 (w64 ((IntKind.wrap .i64 (x274.toNat : Int)) - s227.2.1)))) fun x283 => Option.bind (if (decide ((w64 ((IntKind.wrap .i64 (x274.toNat : Int)) - s227.2.1)) < 0)) = true then Option.bind (whileB (R := Empty) (fun (s309 : List UInt32 × Int × Int) => if (decide (s309.2.2 < n)) = true then Option.bind (idx s309.1 (w64 (s309.2.2 + s136.2.2))) fun x323 => Option.bind (idx v s309.2.2) fun x328 => Option.bind (setI s309.1 (w64 (s309.2.2 + s136.2.2)) (toU32 (IntKind.wrap .u64 (s309.2.1 + (IntKind.wrap .u64 ((IntKind.wrap .u64 (x323.toNat : Int)) + (IntKind.wrap .u64 (x328.toNat : Int)))))))) fun x340 => Option.bind (shr .u64 (IntKind.wrap .u64 (s309.2.1 + (IntKind.wrap .u64 ((IntKind.wrap .u64 (x323.toNat : Int)) + (IntKind.wrap .u64 (x328.toNat : Int)))))) 32) fun x344 => some (.nx (x340, x344, w64 (s309.2.2 + 1))) else some (.bk (s309.1, s309.2.1, s309.2.2))) (x283, 0, 0)) fun o298 => o298.andThen (fun y => y.elim) fun s299 => Option.bind (idx s299.1 (w64 (s136.2.2 + n))) fun x348 => Option.bind (setI s299.1 (w64 (s136.2.2 + n)) (toU32 ((x348.toNat : Int) + ((toU32 s299.2.1).toNat : Int)))) fun x357 => some (x357, IntKind.wrap .u64 (s181.1 - 1)) else some (x283, s181.1)) fun s288 => Option.bind (idx s136.2.1 s136.2.2) fun x363 => Option.bind (setI s136.2.1 s136.2.2 (toU32 s288.2)) fun x368 => some (.nx (s288.1, x368, w64 (s136.2.2 - 1))) else some (.bk (s136.1, s136.2.1, s136.2.2))

/-- the three top parts -/
theorem top_parts {u : List UInt32} {m : Nat} (hl : m + 2 < u.length) (h : wv u < cp (m + 3)) : ∃ U0 U1 U2 : UInt32, u[m]? = some U0 ∧ u[m + 1]? = some U1 ∧ u[m + 2]? = some U2 ∧
    wv u = wv (u.take m) + cp m * ((U0.toNat : Int) + 4294967296 * (U1.toNat : Int) + 18446744073709551616 * (U2.toNat : Int)) ∧ 0 ≤ wv (u.take m) ∧ wv (u.take m) < cp m := by
  have h0 : u[m]? = some u[m] := List.getElem?_eq_getElem (by omega)
  have h1 : u[m + 1]? = some u[m + 1] := List.getElem?_eq_getElem (by omega)
  have h2 : u[m + 2]? = some u[m + 2] := List.getElem?_eq_getElem (by omega)
  generalize u[m] = U0 at h0
  generalize u[m + 1] = U1 at h1
  generalize u[m + 2] = U2 at h2
  have e0 := wv_take_succ h0
  have e1 := wv_take_succ h1
  have e2 := wv_split h2
  have hw := wv_nonneg (u.drop (m + 2 + 1))
  have ht := wv_nonneg (u.take m)
  have ht2 := wv_nonneg (u.take (m + 2))
  have hlt := wv_lt (u.take m)
  rw [List.length_take, Nat.min_eq_left (by omega)] at hlt
  have hc := cp_pos m
  have c1 : cp (m + 1) = 4294967296 * cp m := rfl
  have c2 : cp (m + 2) = 18446744073709551616 * cp m := by rw [cp, c1]; omega
  have c3 : cp (m + 3) = 79228162514264337593543950336 * cp m := by rw [cp, c2]; omega
  have hU2 := u32_rng U2
  have hd0 : wv (u.drop (m + 2 + 1)) = 0 := by
    by_cases hz : wv (u.drop (m + 2 + 1)) = 0
    · exact hz
    · have h4 := Int.mul_le_mul_of_nonneg_left (show (4294967296 : Int) ≤ (U2.toNat : Int) + 4294967296 * wv (u.drop (m + 2 + 1)) by omega) (Int.le_of_lt (cp_pos (m + 2)))
      omega
  rw [hd0] at e2
  refine ⟨U0, U1, U2, h0, h1, h2, ?_, ht, hlt⟩
  have e3 : cp (m + 2) * ((U2.toNat : Int) + 4294967296 * 0) = cp m * (18446744073709551616 * (U2.toNat : Int)) := by
    rw [c2, Int.mul_zero, Int.add_zero, Int.mul_comm 18446744073709551616 (cp m), Int.mul_assoc]
  have e4 : cp (m + 1) * (U1.toNat : Int) = cp m * (4294967296 * (U1.toNat : Int)) := by
    rw [c1, Int.mul_comm 4294967296 (cp m), Int.mul_assoc]
  rw [e2, e1, e0, e3, e4, Int.mul_add, Int.mul_add]
  omega

theorem round_spec (v u q : List UInt32) (p j : Nat) (V1 : UInt32) (hvl : v.length = p + 3) (hv0 : wv v < cp (p + 2)) (hv1 : v[p + 1]? = some V1) (hV1 : 2147483648 ≤ (V1.toNat : Int))
    (hul : j + p + 2 < u.length) (hlen : u.length ≤ 1000000) (hqlen : q.length ≤ 1000000) (hu : wv u < cp (j + 1) * wv v) (hq : q[j]? = some 0) :
    ∃ u' q', byBody v ((p + 2 : Nat) : Int) (u, q, (j : Int)) = some (.nx (u', q', (j : Int) - 1)) ∧ u'.length = u.length ∧ q'.length = q.length ∧ (∀ i, i < j → q'[i]? = q[i]?) ∧
      wv u' + wv v * wv q' = wv u + wv v * wv q ∧ wv u' < cp j * wv v := by
  have hcj := cp_pos j
  have hcm := cp_pos (j + p)
  have hupos := wv_nonneg u
  have hvpos := wv_nonneg v
  have hutop : wv u < cp (j + p + 3) := by
    have h1 := Int.mul_lt_mul_of_pos_left hv0 (cp_pos (j + 1))
    rw [← cp_add, show j + 1 + (p + 2) = j + p + 3 by omega] at h1
    omega
  obtain ⟨U0, U1, U2, hu0, hu1, hu2, hue, hL0, hL1⟩ := top_parts (u := u) (m := j + p) (by omega) hutop
  -- the divisor's parts
  have hv2 : v[p]? = some v[p] := List.getElem?_eq_getElem (by omega)
  generalize v[p] = V2 at hv2
  have hve : wv v = wv (v.take p) + cp p * ((V2.toNat : Int) + 4294967296 * (V1.toNat : Int)) := by
    have e0 := wv_take_succ hv2
    have e1 := wv_split hv1
    have hd := wv_nonneg (v.drop (p + 1 + 1))
    have hd0 : wv (v.drop (p + 1 + 1)) = 0 := by
      by_cases hz : wv (v.drop (p + 1 + 1)) = 0
      · exact hz
      · have h4 := Int.mul_le_mul_of_nonneg_left (show (4294967296 : Int) ≤ (V1.toNat : Int) + 4294967296 * wv (v.drop (p + 1 + 1)) by omega) (Int.le_of_lt (cp_pos (p + 1)))
        have := wv_nonneg (v.take (p + 1))
        have c2 : cp (p + 2) = 4294967296 * cp (p + 1) := rfl
        omega
    rw [hd0, e0] at e1
    have e4 : cp (p + 1) * ((V1.toNat : Int) + 4294967296 * 0) = cp p * (4294967296 * (V1.toNat : Int)) := by
      rw [Int.mul_zero, Int.add_zero, cp, Int.mul_comm 4294967296 (cp p), Int.mul_assoc]
    rw [e1, e4, Int.mul_add]
    omega
  have hvw0 := wv_nonneg (v.take p)
  have hvw1 := wv_lt (v.take p)
  rw [List.length_take, Nat.min_eq_left (by omega)] at hvw1
  -- in units of C
  have hVC : cp j * wv v = ((V1.toNat : Int) * 4294967296 + (V2.toNat : Int)) * cp (j + p) + cp j * wv (v.take p) := by
    rw [hve, Int.mul_add, cp_add, ← Int.mul_assoc, Int.mul_comm (cp j * cp p), Int.mul_comm 4294967296 (V1.toNat : Int), Int.add_comm (V2.toNat : Int)]
    omega
  have hw0 : 0 ≤ cp j * wv (v.take p) := Int.mul_nonneg (Int.le_of_lt hcj) hvw0
  have hw1 : cp j * wv (v.take p) < cp (j + p) := by
    rw [cp_add]
    exact Int.mul_lt_mul_of_pos_left hvw1 hcj
  have hUC : wv u = (((U2.toNat : Int) * 4294967296 + (U1.toNat : Int)) * 4294967296 + (U0.toNat : Int)) * cp (j + p) + wv (u.take (j + p)) := by
    rw [hue, Int.mul_comm (cp (j + p))]
    have : (U0.toNat : Int) + 4294967296 * (U1.toNat : Int) + 18446744073709551616 * (U2.toNat : Int) = ((U2.toNat : Int) * 4294967296 + (U1.toNat : Int)) * 4294967296 + (U0.toNat : Int) := by omega
    rw [this]
    omega
  have hcj1 : cp (j + 1) * wv v = 4294967296 * (cp j * wv v) := by rw [cp, Int.mul_assoc]
  have r0 := u32_rng U0
  have r1 := u32_rng U1
  have r2 := u32_rng U2
  have s1 := u32_rng V1
  have s2 := u32_rng V2
  generalize hC : cp (j + p) = C at *
  generalize hX : cp j * wv v = X at *
  generalize hw : cp j * wv (v.take p) = w at *
  generalize hL : wv (u.take (j + p)) = L at *
  generalize htop : (U2.toNat : Int) * 4294967296 + (U1.toNat : Int) = top at *
  have htopr : 0 ≤ top ∧ top < 18446744073709551616 := by omega
  have hXpos : 0 < X := by
    have := Int.mul_lt_mul_of_pos_right (show (0 : Int) < (V1.toNat : Int) * 4294967296 + (V2.toNat : Int) by omega) hcm
    omega
  have htopb : top < (V1.toNat : Int) * 4294967296 + 4294967296 := by
    by_cases h : top < (V1.toNat : Int) * 4294967296 + 4294967296
    · exact h
    · have h3 := Int.mul_le_mul_of_nonneg_right (show 4294967296 * ((V1.toNat : Int) * 4294967296 + (V2.toNat : Int) + 1) ≤ top * 4294967296 + (U0.toNat : Int) by omega) (Int.le_of_lt hcm)
      rw [Int.mul_assoc, Int.add_mul, Int.one_mul] at h3
      omega
  -- quotient and rest of the top
  obtain ⟨d1, d2, _⟩ := tdiv_spec top (V1.toNat : Int) (by omega)
  obtain ⟨d3, d4, d5, d6, d7⟩ := d2 htopr.1
  have hV0 : (V1.toNat : Int) ≠ 0 := by omega
  have hdle : Int.tdiv top (V1.toNat : Int) ≤ top := by
    have := Int.mul_le_mul_of_nonneg_right (show (1 : Int) ≤ (V1.toNat : Int) by omega) d3
    omega
  have hquo : quoK .u64 top (V1.toNat : Int) = some (Int.tdiv top (V1.toNat : Int)) := by
    unfold quoK
    rw [if_neg hV0]
    congr 1
    exact wrapU64_id d3 (by omega)
  have hrem : remK .u64 top (V1.toNat : Int) = some (Int.tmod top (V1.toNat : Int)) := by
    unfold remK
    rw [if_neg hV0]
  obtain ⟨g, r, hg, g1, g2, g3, g4⟩ := guess_spec v u (p : Int) ((j + p : Nat) : Int) V1 V2 U0 top (Int.tdiv top (V1.toNat : Int)) (Int.tmod top (V1.toNat : Int)) (by rw [idx_nat, hv2]) (by rw [idx_nat, hu0])
    hV1 (by rw [Int.mul_comm]; exact d1) ⟨d4, d5⟩ d3 htopb
  -- the guess
  have hgD : g * ((V1.toNat : Int) * 4294967296 + (V2.toNat : Int)) ≤ top * 4294967296 + (U0.toNat : Int) := by
    rw [Int.mul_add, ← Int.mul_assoc, ← g2, Int.add_mul]
    omega
  obtain ⟨k1, k2⟩ := knuth_bound ((V1.toNat : Int) * 4294967296 + (V2.toNat : Int)) (top * 4294967296 + (U0.toNat : Int)) C w L g hcm ⟨hw0, hw1⟩ ⟨hL0, hL1⟩ (by omega) g1 hgD g4
  rw [← hVC, ← hUC] at k2
  have k1' : ∀ q, 0 ≤ q → q < 4294967296 → q * X ≤ wv u → q ≤ g := by
    intro q q0 q1 q2
    refine k1 q q0 q1 ?_
    rw [← hVC, ← hUC]
    exact q2
  obtain ⟨t, ht, t1, t2, t3, t4⟩ := mulsub_spec v u (p + 2) j g (by omega) (by omega) g1 hlen
  have htk : wv (v.take (p + 2)) = wv v := by
    have hz : v[p + 2]? = some 0 := wv_high hv0 (p + 2) (Nat.le_refl _) (by omega)
    have h5 := wv_take_succ hz
    rw [List.take_of_length_le (by omega)] at h5
    have e0 : ((0 : UInt32).toNat : Int) = 0 := rfl
    rw [e0] at h5
    omega
  rw [htk, hX] at t3
  have ht2 : t.1[j + (p + 2)]? = some U2 := by rw [t4 _ (.inr (Nat.le_refl _))]; exact hu2
  -- the parts above
  have hhigh : ∀ i, j + (p + 2) < i → i < u.length → u[i]? = some 0 := fun i h1 h2 => wv_high hutop i (by omega) h2
  have cM : cp (j + (p + 2)) = 18446744073709551616 * C := by
    have e : cp (j + (p + 2)) = 4294967296 * (4294967296 * cp (j + p)) := rfl
    rw [e, hC]
    omega
  have below : ∀ l : List UInt32, l.length = u.length → (∀ i, j + (p + 2) < i → l[i]? = u[i]?) → wv l < 4294967296 * cp (j + (p + 2)) := by
    intro l hll hl
    have h1 : l = l.take (j + (p + 2) + 1) ++ l.drop (j + (p + 2) + 1) := (List.take_append_drop _ _).symm
    have h2 : l.drop (j + (p + 2) + 1) = List.replicate (l.length - (j + (p + 2) + 1)) 0 := by
      refine List.ext_getElem? fun i => ?_
      rw [List.getElem?_drop]
      by_cases hi : i < l.length - (j + (p + 2) + 1)
      · rw [hl _ (by omega), hhigh _ (by omega) (by omega), List.getElem?_replicate, if_pos hi]
      · rw [List.getElem?_eq_none (by omega), List.getElem?_eq_none (by simp; omega)]
    have h3 := wv_lt (l.take (j + (p + 2) + 1))
    rw [List.length_take, Nat.min_eq_left (by omega)] at h3
    rw [h1, wv_append, h2, wv_zeros, Int.mul_zero, Int.add_zero]
    exact h3
  have w1 : w64 ((j : Int) + ((p + 2 : Nat) : Int)) = ((j + (p + 2) : Nat) : Int) := by rw [w64_id (by omega) (by omega)]; omega
  have w2 : w64 (((j + (p + 2) : Nat) : Int) - 1) = ((j + p + 1 : Nat) : Int) := by rw [w64_id (by omega) (by omega)]; omega
  have w3 : w64 (((j + (p + 2) : Nat) : Int) - 2) = ((j + p : Nat) : Int) := by rw [w64_id (by omega) (by omega)]; omega
  have w4 : w64 (((p + 2 : Nat) : Int) - 1) = ((p + 1 : Nat) : Int) := by rw [w64_id (by omega) (by omega)]; omega
  have w5 : w64 (((p + 2 : Nat) : Int) - 2) = (p : Int) := by rw [w64_id (by omega) (by omega)]; omega
  have w6 : w64 ((j : Int) - 1) = (j : Int) - 1 := w64_id (by omega) (by omega)
  have hu2' : u[j + (p + 2)]? = some U2 := hu2
  have hjle : decide ((0 : Int) ≤ (j : Int)) = true := by simp
  have hwt : IntKind.wrap .i64 (U2.toNat : Int) = (U2.toNat : Int) := wrapI64_id (by omega) (by omega)
  have w7 : w64 ((U2.toNat : Int) - t.2.1) = (U2.toNat : Int) - t.2.1 := w64_id (by omega) (by omega)
  have hql : j < q.length := (List.getElem?_eq_some_iff.1 hq).1
  have fin : ∀ (u' : List UInt32) (g' : Int), 0 ≤ g' → g' < 4294967296 → wv u' = wv u - g' * X → wv u' + wv v * wv (q.set j (toU32 g')) = wv u + wv v * wv q := by
    intro u' g' a0 a1 a2
    rw [wv_set q j _ 0 hq, toU32_mod, a2]
    have e0 : ((0 : UInt32).toNat : Int) = 0 := rfl
    have e1 : g' % 4294967296 = g' := by omega
    rw [e0, e1, Int.sub_zero, Int.mul_add, ← Int.mul_assoc (wv v), Int.mul_comm (wv v) (cp j), hX, Int.mul_comm X g']
    omega
  unfold byBody
  dsimp only
  simp only [hjle, if_true, w1, w2, w3, w4, w5, w6, idx_nat, hu2', hu1, hv1, Option.bind_some, w64u, shl64 r2, or64 r2 r1, htop, hquo, hrem]
  have hg' := hg
  simp only [idx_nat, w64u] at hg'
  rw [hg']
  simp only [Option.bind_some, Lp.andThen_fin]
  simp only [w64u] at ht
  rw [ht]
  simp only [Option.bind_some, Lp.andThen_fin, idx_nat, ht2, hwt, w7, setW_at _ (show j + (p + 2) < t.1.length by omega)]
  have hset := wv_set t.1 (j + (p + 2)) (toU32 ((U2.toNat : Int) - t.2.1)) U2 ht2
  rw [toU32_mod] at hset
  generalize hu' : t.1.set (j + (p + 2)) (toU32 ((U2.toNat : Int) - t.2.1)) = u' at hset
  have hu'l : u'.length = u.length := by rw [← hu', List.length_set, t1]
  have hu'p := wv_nonneg u'
  have hu'hi : ∀ i, j + (p + 2) < i → u'[i]? = u[i]? := by
    intro i hi
    rw [← hu', List.getElem?_set_ne (by omega)]
    exact t4 i (.inr (by omega))
  have hu'b := below u' hu'l hu'hi
  have hu'at : u'[j + (p + 2)]? = some (toU32 ((U2.toNat : Int) - t.2.1)) := by
    rw [← hu', List.getElem?_set_self (by omega)]
  -- what is taken away
  have hval : wv u' = wv u - g * X + cp (j + (p + 2)) * (((U2.toNat : Int) - t.2.1) % 4294967296 - ((U2.toNat : Int) - t.2.1)) := by
    rw [hset, Int.mul_sub, Int.mul_sub, Int.mul_sub]
    omega
  have hcM := cp_pos (j + (p + 2))
  generalize hM : cp (j + (p + 2)) = Mm at *
  by_cases hT : (U2.toNat : Int) - t.2.1 < 0
  · have e1 : decide ((U2.toNat : Int) - t.2.1 < 0) = true := by rw [decide_eq_true_eq]; exact hT
    have e2 : ((U2.toNat : Int) - t.2.1) % 4294967296 = (U2.toNat : Int) - t.2.1 + 4294967296 := by omega
    rw [e2] at hval
    have e3 : (U2.toNat : Int) - t.2.1 + 4294967296 - ((U2.toNat : Int) - t.2.1) = 4294967296 := by omega
    rw [e3, Int.mul_comm Mm] at hval
    have hneg : wv u - g * X < 0 := by omega
    have hg1 : 1 ≤ g := by
      by_cases h : 1 ≤ g
      · exact h
      · obtain rfl : g = 0 := by omega
        omega
    obtain ⟨z, hz, z1, z2, z3, z4⟩ := addback_spec v u' (p + 2) j (by omega) (by omega) (by omega)
    rw [htk, hX] at z3
    have hzat : z.1[j + (p + 2)]? = some (toU32 ((U2.toNat : Int) - t.2.1)) := by rw [z4 _ (.inr (Nat.le_refl _)), hu'at]
    have w8 : IntKind.u64.wrap (g - 1) = g - 1 := wrapU64_id (by omega) (by omega)
    simp only [e1, if_true]
    simp only [w64u] at hz
    rw [hz]
    simp only [Option.bind_some, Lp.andThen_fin, idx_nat, hzat, w8, hq, setW_at _ (show j + (p + 2) < z.1.length by omega), setW_at _ hql]
    have hs2 := wv_set z.1 (j + (p + 2)) (toU32 (((toU32 ((U2.toNat : Int) - t.2.1)).toNat : Int) + ((toU32 z.2.1).toNat : Int))) _ hzat
    have e5 : ((toU32 z.2.1).toNat : Int) = z.2.1 := by rw [toU32_mod]; omega
    generalize hu2 : z.1.set (j + (p + 2)) (toU32 (((toU32 ((U2.toNat : Int) - t.2.1)).toNat : Int) + ((toU32 z.2.1).toNat : Int))) = u2 at hs2
    rw [toU32_mod, e5, toU32_mod, e2] at hs2
    have hu2l : u2.length = u.length := by rw [← hu2, List.length_set, z1, hu'l]
    have hu2hi : ∀ i, j + (p + 2) < i → u2[i]? = u[i]? := by
      intro i hi
      rw [← hu2, List.getElem?_set_ne (by omega), z4 i (.inr (by omega))]
      exact hu'hi i hi
    have hu2b := below u2 hu2l hu2hi
    rw [hM] at z3 hs2
    have hk2 : wv u - g * X + X = wv u - (g - 1) * X := by rw [Int.sub_mul, Int.one_mul]; omega
    have hfin : wv u2 = wv u - (g - 1) * X := by
      have hcase : z.2.1 = 0 ∨ z.2.1 = 1 := by omega
      rcases hcase with h0 | h0
      · exfalso
        rw [h0] at hs2 z3
        have e6 : ((U2.toNat : Int) - t.2.1 + 4294967296 + 0) % 4294967296 - ((U2.toNat : Int) - t.2.1 + 4294967296) = 0 := by omega
        rw [e6] at hs2
        omega
      · rw [h0] at hs2 z3
        by_cases h1 : (U2.toNat : Int) - t.2.1 = -1
        · have e6 : ((U2.toNat : Int) - t.2.1 + 4294967296 + 1) % 4294967296 - ((U2.toNat : Int) - t.2.1 + 4294967296) = -4294967295 := by omega
          rw [e6] at hs2
          omega
        · exfalso
          have e6 : ((U2.toNat : Int) - t.2.1 + 4294967296 + 1) % 4294967296 - ((U2.toNat : Int) - t.2.1 + 4294967296) = 1 := by omega
          rw [e6] at hs2
          omega
    refine ⟨_, _, rfl, hu2l, by simp, fun i hi => List.getElem?_set_ne (by omega), ?_, ?_⟩
    · exact fin u2 (g - 1) (by omega) (by omega) hfin
    · rw [hfin]
      omega
  · have e1 : decide ((U2.toNat : Int) - t.2.1 < 0) = false := by rw [decide_eq_false_iff_not]; exact hT
    have e2 : ((U2.toNat : Int) - t.2.1) % 4294967296 - ((U2.toNat : Int) - t.2.1) = 0 := by omega
    rw [e2, Int.mul_zero, Int.add_zero] at hval
    simp only [e1, Bool.false_eq_true, if_false, Option.bind_some, idx_nat, hq, setW_at _ hql]
    refine ⟨_, _, rfl, hu'l, by simp, fun i hi => List.getElem?_set_ne (by omega), ?_, ?_⟩
    · exact fin u' g g1.1 g1.2 hval
    · by_cases h : wv u' < X
      · exact h
      · exfalso
        have h1 : (g + 1) * X ≤ wv u := by rw [Int.add_mul, Int.one_mul]; omega
        by_cases h2 : g + 1 < 4294967296
        · have := k1' (g + 1) (by omega) h2 h1
          omega
        · have h3 := Int.mul_le_mul_of_nonneg_right (show 4294967296 ≤ g + 1 by omega) (Int.le_of_lt hXpos)
          omega
end Go.Proofs.YtnnbhehaplphiaaGreatDoor.M
