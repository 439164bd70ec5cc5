/-
  RatioWrites: the program's answers are the reference's, for all arguments.
-/
import Derived.Test.YtblcbjmgpacliaaGreatDoorRatioWritesRatCheck
import Derived.Test.YtblcbjmgpacliaaGreatDoorRatioWritesBigA
import Derived.Test.YtblcbjmgpacliaaGreatDoorRatioWritesBigC
import Derived.Lib.Repeat
namespace Go.Proofs.YtblcbjmgpacliaaGreatDoor.M
open Go Go.Pu Go.Lib
set_option linter.unusedSimpArgs false
set_option linter.unusedVariables false

theorem dec_len {n k : Nat} (hk : 1 ≤ k) (h : n < 10 ^ k) : (decDigits n).length ≤ k := by
  obtain ⟨d1, d2, d3, d4, d5⟩ := dec_digits n
  by_cases h0 : n = 0
  · subst h0
    rw [decDigits_one (by omega)]
    simpa using hk
  · have d5 := d5 h0
    match he : decDigits n, d1, d2, d5 with
    | [], _, _, _ => simp
    | c :: y, d1, d2, d5 =>
      rw [List.all_cons, Bool.and_eq_true] at d1
      rw [dval_head] at d2
      have h6 := d1.1
      unfold dig at h6
      rw [Bool.and_eq_true, decide_eq_true_eq, decide_eq_true_eq] at h6
      have h7 : c ≠ 48 := by
        rintro rfl
        simp at d5
      have h8 : c.toNat ≠ 48 := fun h => h7 (UInt8.toNat_inj.1 (by simpa using h))
      have hpos := Nat.mul_le_mul_right (10 ^ y.length) (show 1 ≤ c.toNat - 48 by omega)
      by_cases h9 : (c :: y).length ≤ k
      · exact h9
      · have h10 := Nat.pow_le_pow_right (n := 10) (by omega) (show k ≤ y.length by simp at h9; omega)
        omega

theorem zeros_val (k : Nat) : dval 0 (List.replicate k 48) = 0 := by
  induction k with
  | zero => rfl
  | succ k ih => rw [List.replicate_succ, dval_head, ih]; simp
theorem zeros_dig (k : Nat) : (List.replicate k (48 : UInt8)).all dig = true := by
  rw [List.all_eq_true]
  intro c hc
  rw [List.eq_of_mem_replicate hc]
  rfl
theorem repeat_val (k : Nat) (h : k ≤ 1000000) : strings_Repeat (⟨#[48]⟩ : ByteArray) (k : Int) = some (tb (List.replicate k 48)) := by
  unfold strings_Repeat
  rw [if_pos ⟨by omega, by omega, by rw [Int.toNat_natCast]; show 1 * k ≤ _; omega⟩, Int.toNat_natCast]
  have e : (⟨#[48]⟩ : ByteArray).data.toList = List.replicate 1 (48 : UInt8) := rfl
  rw [e, repeatL_replicate, Nat.mul_one]
  rfl

/-- the reference's and the code's text of a quotient: the point and the zeros -/
theorem point_some (T : List UInt8) (n : Nat) (h0 : T ≠ []) (hT : T.length ≤ 1000000) (hn : 1 ≤ n ∧ n ≤ 1000) :
    ∃ v : ByteArray × Int, (Option.bind (if (decide (((tb T).size : Int) ≤ (n : Int))) = true then Option.bind (strings_Repeat (⟨#[48]⟩ : ByteArray) (w64 ((w64 ((n : Int) + 1)) - ((tb T).size : Int)))) fun x115 => Option.bind (catS x115 (tb T)) fun x119 => some x119 else some (tb T)) fun s107 =>
        Option.bind (sliceS s107 none (some (w64 ((s107.size : Int) - (n : Int))))) fun x122 =>
        Option.bind (catS x122 (⟨#[46]⟩ : ByteArray)) fun x123 =>
        Option.bind (sliceS s107 (some (w64 ((s107.size : Int) - (n : Int)))) none) fun x124 =>
        Option.bind (catS x123 x124) fun x125 =>
        some (x125, (0 : Int))) = some v := by
  have main : ∀ U : List UInt8, n < U.length → U.length ≤ 2000000 → ∃ v : ByteArray × Int, (Option.bind (sliceS (tb U) none (some (w64 (((tb U).size : Int) - (n : Int))))) fun x122 =>
        Option.bind (catS x122 (⟨#[46]⟩ : ByteArray)) fun x123 =>
        Option.bind (sliceS (tb U) (some (w64 (((tb U).size : Int) - (n : Int)))) none) fun x124 =>
        Option.bind (catS x123 x124) fun x125 =>
        some (x125, (0 : Int))) = some v := by
    intro U hU hU2
    have hw : w64 (((tb U).size : Int) - (n : Int)) = ((U.length - n : Nat) : Int) := by rw [tb_size, w64_id (by omega) (by omega)]; omega
    have hp : (⟨#[46]⟩ : ByteArray) = tb [46] := rfl
    rw [hw, tb_sliceH U (U.length - n) (by omega), tb_sliceL U (U.length - n) (by omega), hp]
    simp only [Option.bind_some]
    rw [tb_cat _ _ (by simp; omega), Option.bind_some, tb_cat _ _ (by simp; omega)]
    exact ⟨_, rfl⟩
  by_cases hle : T.length ≤ n
  · have e : decide (((tb T).size : Int) ≤ (n : Int)) = true := by rw [decide_eq_true_eq, tb_size]; omega
    have hw : w64 ((w64 ((n : Int) + 1)) - ((tb T).size : Int)) = ((n + 1 - T.length : Nat) : Int) := by rw [tb_size, w64_id (n := (n : Int) + 1) (by omega) (by omega), w64_id (by omega) (by omega)]; omega
    rw [if_pos e, hw, repeat_val _ (by omega)]
    simp only [Option.bind_some]
    rw [tb_cat _ _ (by simp; omega)]
    simp only [Option.bind_some]
    exact main _ (by simp; omega) (by simp; omega)
  · have e : ¬ (decide (((tb T).size : Int) ≤ (n : Int)) = true) := by rw [decide_eq_true_eq, tb_size]; omega
    rw [if_neg e]
    simp only [Option.bind_some]
    exact main T (by omega) (by omega)

theorem quot_unique {a b q r q' r' : Int} (hb : 0 < b) (h : a = q * b + r) (h' : a = q' * b + r') (r0 : 0 ≤ r) (r1 : r < b) (r0' : 0 ≤ r') (r1' : r' < b) : q = q' := by
  have key : ∀ {q r q' r' : Int}, a = q * b + r → a = q' * b + r' → r < b → 0 ≤ r' → q ≤ q' → q' ≤ q := by
    intro q r q' r' h h' r1 r0' hle
    by_cases h2 : q' ≤ q
    · exact h2
    · have := Int.mul_le_mul_of_nonneg_right (show q + 1 ≤ q' by omega) (Int.le_of_lt hb)
      rw [Int.add_mul, Int.one_mul] at this
      omega
  by_cases hle : q ≤ q'
  · have := key h h' r1 r0' hle
    omega
  · have := key h' h r1' r0 (by omega)
    omega

theorem decimal_eq (r : staff_Ratio) (n : Int) : ∃ v, staff_Decimal r n = some v ∧ portref2_DecimalOf r n = some v := by
  unfold staff_Decimal portref2_DecimalOf
  rcases read_cases r with ⟨x, e, he, h1, h2⟩ | ⟨x, y, h1, h2, h3, hv⟩
  · rw [h1, h2]
    have c0 : (e != 0) = true := by simpa using he
    exact ⟨((⟨#[]⟩ : ByteArray), e), by simp only [Option.bind_some, c0, if_true], by simp only [Option.bind_some, c0, if_true]⟩
  · rw [h1, h2, h3]
    have c0 : ((0 : Int) != 0) = false := by decide
    simp only [Option.bind_some, c0, Bool.false_eq_true, if_false]
    by_cases hn : 0 ≤ n ∧ n ≤ 1000
    rotate_left
    · have e1 : (!(staff_within n 0 1000)) = true := by
        simp only [staff_within, Bool.not_eq_true', Bool.and_eq_false_iff, decide_eq_false_iff_not]
        omega
      have e2 : ((decide (n < 0)) || (decide ((1000 : Int) < n))) = true := by
        rw [Bool.or_eq_true, decide_eq_true_eq, decide_eq_true_eq]
        omega
      exact ⟨_, by rw [if_pos e1], by rw [if_pos e2]⟩
    have e1 : ¬ ((!(staff_within n 0 1000)) = true) := by
      simp only [staff_within, Bool.not_eq_true', Bool.and_eq_false_iff, decide_eq_false_iff_not]
      omega
    have e2 : ¬ (((decide (n < 0)) || (decide ((1000 : Int) < n))) = true) := by
      rw [Bool.or_eq_true, decide_eq_true_eq, decide_eq_true_eq]
      omega
    rw [if_neg e1, if_neg e2]
    obtain ⟨k, rfl⟩ := Int.eq_ofNat_of_zero_le hn.1
    have hone : (⟨#[49]⟩ : ByteArray) = tb [49] := rfl
    rw [repeat_val k (by omega), hone]
    simp only [Option.bind_some]
    rw [tb_cat _ _ (by simp; omega)]
    simp only [Option.bind_some]
    have hdg : ([49] ++ List.replicate k (48 : UInt8)).all dig = true := by rw [List.all_append, zeros_dig]; rfl
    have hlen : ([49] ++ List.replicate k (48 : UInt8)).length = k + 1 := by rw [List.length_append, List.length_replicate]; show 1 + k = _; omega
    obtain ⟨a, ha, a1, a2, a3, a4⟩ := readNat_spec _ (by rw [hlen]; omega) hdg
    obtain ⟨b, hb, b1, b2, b3⟩ := wholeText_spec _ (by rw [hlen]; omega) hdg
    rw [hlen] at a4 b3
    have hT : 0 < dval 0 ([49] ++ List.replicate k (48 : UInt8)) := by
      have : [49] ++ List.replicate k (48 : UInt8) = 49 :: List.replicate k 48 := rfl
      rw [this, dval_head, zeros_val]
      have := Nat.pow_le_pow_right (n := 10) (by omega) (Nat.zero_le (List.replicate k (48 : UInt8)).length)
      show 0 < (49 - 48) * _ + 0
      omega
    generalize hTe : dval 0 ([49] ++ List.replicate k (48 : UInt8)) = T at a1 b1 hT
    have l1 := hv.ln
    have l2 := hv.ld
    have l3 := hv.kn
    have l4 := hv.kd
    have dp := hv.dp
    -- the code's steps
    obtain ⟨c, hc, c1, c2, c3, c4⟩ := times_spec x.num a hv.xn a2 (by omega) (by omega)
    obtain ⟨d, hd, d1, d2, d3, d4⟩ := small_spec c 2 c2 (by decide) (by omega)
    obtain ⟨f, hf, f1, f2, f3, f4⟩ := plus_spec' d x.den d2 hv.xd (by omega) (by omega)
    obtain ⟨g, hg, g1, g2, g3, g4⟩ := small_spec x.den 2 hv.xd (by decide) (by omega)
    obtain ⟨q, rm, hq, q1, q2, q3, q4, q5, q6, q7, q8⟩ := by10_spec f g f2 g2 (f4 d3 hv.td) g3 (nv_pos_len (by rw [g1]; omega)) (by omega) (by omega)
    have t1 := nat_text q q3 q5 (by omega)
    -- the reference's steps
    obtain ⟨c', hc', c1', c2', c3'⟩ := wtimes_spec y.num b (by omega) (by omega)
    obtain ⟨w2, hw2, w21, w22, w23⟩ := wholeOf_spec 2 (by decide) (by decide)
    obtain ⟨d', hd', d1', d2', d3'⟩ := wtimes_spec c' w2 (by omega) (by omega)
    obtain ⟨f', hf', f1', f2', f3'⟩ := wplus_spec d' y.den (by omega) (by omega)
    obtain ⟨g', hg', g1', g2', g3'⟩ := wplus_spec y.den y.den (by omega) (by omega)
    have hgp : 0 < wv g' := by rw [g1', ← hv.ed]; omega
    obtain ⟨q', rm', hq', q1', q2', q3', q4', q5', q6'⟩ := by_spec f' g' f2' g2' (wv_pos_len hgp) (by omega) (by omega)
    have t2 := whole_text q' q3' (by omega)
    have heq : nv q = wv q' := by
      have e3 : nv f = wv f' := by rw [f1, d1, c1, f1', d1', c1', a1, b1, hv.en, hv.ed, w21, Int.mul_comm 2]
      have e4 : nv g = wv g' := by rw [g1, g1', hv.ed]; omega
      rw [e3, e4] at q1
      rw [e4] at q2
      exact quot_unique hgp q1 q1' (nv_nonneg q4) q2 (wv_nonneg rm') q2'
    rw [← heq] at t2
    simp only [ha, hb, hc, hd, hf, hg, hq, t1, hc', hw2, hd', hf', hg', hq', t2, Option.bind_some]
    have hql : (nv q).toNat < 10 ^ 100000 := by
      have h5 := nv_lt q3
      have h6 := nv_nonneg q3
      rw [bp_pow] at h5
      have h7 := Nat.pow_le_pow_right (n := 10) (by omega) (show 9 * q.length ≤ 100000 by omega)
      omega
    have hdl := dec_len (by decide) hql
    have hdne := (dec_digits (nv q).toNat).2.2.1
    generalize decDigits (nv q).toNat = U at hdl hdne
    by_cases hk : k = 0
    · subst hk
      exact ⟨_, rfl, rfl⟩
    · have e5 : ((k : Int) == 0) = false := by simpa using hk
      simp only [e5, Bool.false_eq_true, if_false]
      obtain ⟨v, hv⟩ := point_some U k hdne (by omega) ⟨by omega, by omega⟩
      exact ⟨v, hv, hv⟩

theorem ratioOf_eq (num den : Int) (hn : num < 9223372036854775808) (hd : den < 9223372036854775808) : ∃ v, staff_RatioOf num den = some v ∧ portref2_RatioFrom num den = some v := by
  unfold staff_RatioOf portref2_RatioFrom
  by_cases hc : num < 0 ∨ den < 1
  · have e : ((decide (num < 0)) || (decide (den < 1))) = true := by rw [Bool.or_eq_true, decide_eq_true_eq, decide_eq_true_eq]; exact hc
    exact ⟨_, by rw [if_pos e], by rw [if_pos e]⟩
  · have e : ¬ (((decide (num < 0)) || (decide (den < 1))) = true) := by rw [Bool.or_eq_true, decide_eq_true_eq, decide_eq_true_eq]; exact hc
    rw [if_neg e, if_neg e]
    obtain ⟨a, ha, a1, a2, a3, a4⟩ := natOf_gen num (by omega) hn
    obtain ⟨b, hb, b1, b2, b3, b4⟩ := natOf_gen den (by omega) hd
    obtain ⟨r, hr, fr⟩ := rat_spec num den (by omega) (by omega)
    obtain ⟨y, t, h1, h2, h3⟩ := written_both a2 b2 a3 b3 a4 b4 (by decide) a1 b1 (by omega) (by omega) fr (by decide)
    exact ⟨(t, 0), by simp only [ha, hb, h1, h2, Option.bind_some], by simp only [hr, h3, Option.bind_some]⟩

theorem writes_true (num den : Int) (r : staff_Ratio) (n : Int) (hn : num < 9223372036854775808) (hd : den < 9223372036854775808) : portlaw2_RatioWrites num den r n = some true := by
  unfold portlaw2_RatioWrites
  obtain ⟨a, a1, a2⟩ := ratioOf_eq num den hn hd
  obtain ⟨b, b1, b2⟩ := decimal_eq r n
  have se : ∀ s : ByteArray, strEq s s = true := fun s => by simp [strEq]
  simp only [a1, a2, b1, b2, Option.bind_some, se, Bool.and_self, beq_self_eq_true]
end Go.Proofs.YtblcbjmgpacliaaGreatDoor.M
