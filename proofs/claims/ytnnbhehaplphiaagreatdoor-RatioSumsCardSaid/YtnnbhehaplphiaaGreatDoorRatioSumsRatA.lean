/-
  Texts and their bytes, Trim.
-/
import Derived.Test.YtnnbhehaplphiaaGreatDoorRatioSumsM
import Derived.Test.YtnnbhehaplphiaaGreatDoorPl
import Derived.Lib.SlTrimSet
import Derived.KernelRfl
import Derived.Test.YtnnbhehaplphiaaGreatDoorRatioSumsBigC
import Derived.Lib.Index
namespace Go.Proofs.YtnnbhehaplphiaaGreatDoor.M
open Go Go.Pu
set_option linter.unusedSimpArgs false
set_option linter.unusedVariables false

theorem bytes_at (s : ByteArray) (k : Nat) : s[k]? = s.data.toList[k]? := by
  by_cases h : k < s.size
  · rw [getElem?_pos s k h]
    have h2 : k < s.data.toList.length := h
    rw [List.getElem?_eq_getElem h2]
    rfl
  · rw [getElem?_neg s k h, List.getElem?_eq_none (by simpa using h)]
theorem idxS_nat (s : ByteArray) (k : Nat) : idxS s (k : Int) = s.data.toList[k]? := by
  unfold idxS
  rw [if_pos (by omega), Int.toNat_natCast, bytes_at]
theorem strEq_nil (x : ByteArray) : strEq x (⟨#[]⟩ : ByteArray) = (x.data.toList == []) := by
  unfold strEq
  rw [ByteArray.toList_eq, ByteArray.toList_eq]
theorem dropWhile_nil {α : Type} (p : α → Bool) : ∀ l : List α, l.dropWhile p = [] ↔ ∀ x ∈ l, p x = true
  | [] => by simp
  | x :: l => by
    by_cases h : p x = true
    · simp [List.dropWhile, h, dropWhile_nil p l]
    · simp [List.dropWhile, h]
theorem trimS_nil (l cs : List UInt8) : Go.Lib.trimS l cs = [] ↔ ∀ x ∈ l, cs.contains x = true := by
  unfold Go.Lib.trimS Go.Lib.trimLeftS Go.Lib.trimRightS
  rw [dropWhile_nil]
  constructor
  · intro h x hx
    by_cases hc : cs.contains x = true
    · exact hc
    · have hlr : x ∈ l.reverse := by simpa using hx
      -- an element that is not cut stays
      have key : ∀ m : List UInt8, x ∈ m → x ∈ m.dropWhile (cs.contains ·) := by
        intro m
        induction m with
        | nil => intro h; cases h
        | cons y m ih =>
          intro hm
          by_cases hy : cs.contains y = true
          · rw [List.dropWhile_cons_of_pos hy]
            rcases List.mem_cons.1 hm with rfl | hm
            · exact absurd hy hc
            · exact ih hm
          · rw [List.dropWhile_cons_of_neg hy]
            exact hm
      exact h x (by simpa using key l.reverse hlr)
  · intro h x hx
    have : x ∈ l := by
      have h1 : x ∈ l.reverse.dropWhile (cs.contains ·) := by simpa using hx
      have := (List.dropWhile_sublist (cs.contains ·)).subset h1
      simpa using this
    exact h x this

end Go.Proofs.YtnnbhehaplphiaaGreatDoor.M
/-
  Digits in a text: plain part (for the ratios).
-/
namespace Go.Proofs.YtnnbhehaplphiaaGreatDoor.M
open Go Go.Pu Go.Lib
set_option linter.unusedSimpArgs false
set_option linter.unusedVariables false

/-- bytes as a text -/
def tb (l : List UInt8) : ByteArray := ⟨l.toArray⟩
theorem tb_size (l : List UInt8) : (tb l).size = l.length := by
  show l.toArray.size = _
  simp
theorem tb_list (l : List UInt8) : (tb l).data.toList = l := by
  show l.toArray.toList = l
  simp
theorem tb_of (s : ByteArray) : tb s.data.toList = s := by
  apply ByteArray.ext
  show s.data.toList.toArray = s.data
  simp
theorem tb_eq (a b : List UInt8) : strEq (tb a) (tb b) = decide (a = b) := by
  rw [Bool.eq_iff_iff, decide_eq_true_eq]
  unfold strEq
  rw [beq_iff_eq, ByteArray.toList_eq, ByteArray.toList_eq, tb_list, tb_list]
theorem tb_slice (l : List UInt8) (a b : Nat) (h1 : a ≤ b) (h2 : b ≤ l.length) : sliceS (tb l) (some (a : Int)) (some (b : Int)) = some (tb ((l.take b).drop a)) := by
  unfold sliceS bounds
  simp only [Option.getD_some]
  rw [if_pos (by rw [tb_size]; omega)]
  simp only [Option.map_some, Int.toNat_natCast]
  congr 1
  apply ByteArray.ext
  rw [ByteArray.data_extract]
  show l.toArray.extract a b = ((l.take b).drop a).toArray
  rw [List.extract_toArray, List.extract_eq_take_drop, List.drop_take]
theorem tb_sliceL (l : List UInt8) (a : Nat) (h1 : a ≤ l.length) : sliceS (tb l) (some (a : Int)) none = some (tb (l.drop a)) := by
  have := tb_slice l a l.length h1 (Nat.le_refl _)
  rw [List.take_length] at this
  rw [← this]
  unfold sliceS bounds
  simp only [Option.getD_some, Option.getD_none, tb_size]
theorem tb_sliceH (l : List UInt8) (b : Nat) (h1 : b ≤ l.length) : sliceS (tb l) none (some (b : Int)) = some (tb (l.take b)) := by
  have := tb_slice l 0 b (Nat.zero_le _) h1
  rw [List.drop_zero] at this
  rw [← this]
  unfold sliceS bounds
  simp only [Option.getD_some, Option.getD_none, tb_size]
  rfl
theorem tb_idx (l : List UInt8) (k : Nat) : idxS (tb l) (k : Int) = l[k]? := by
  unfold idxS
  rw [if_pos (by omega), Int.toNat_natCast, bytes_at, tb_list]
/-- ahead of the first c, and behind it -/
def digB (k : Nat) (l : List UInt8) : Bool := !(decide (l = [])) && (decide (l.length ≤ k) && (l.all dig && (decide (l.length = 1) || decide (l.head? ≠ some 48))))
theorem dig_set (b : UInt8) : dig b = (([48, 49, 50, 51, 52, 53, 54, 55, 56, 57] : List UInt8).contains b) := by
  have h : ((List.range 256).all fun i => dig (UInt8.ofNat i) == (([48, 49, 50, 51, 52, 53, 54, 55, 56, 57] : List UInt8).contains (UInt8.ofNat i))) = true := by kernel_rfl
  have h := List.all_eq_true.1 h b.toNat (List.mem_range.2 b.toNat_lt)
  rw [UInt8.ofNat_toNat] at h
  simpa using h
theorem trim_digits (l : List UInt8) (hl : l.length ≤ 9223372036854775807) : ∃ t, strings_Trim (tb l) (⟨#[48, 49, 50, 51, 52, 53, 54, 55, 56, 57]⟩ : ByteArray) = some t ∧ strEq t (⟨#[]⟩ : ByteArray) = l.all dig := by
  unfold strings_Trim
  rw [if_pos ⟨by rw [tb_size]; exact hl, by decide, by decide⟩]
  refine ⟨_, rfl, ?_⟩
  rw [strEq_nil]
  show ((Go.Lib.trimS (tb l).data.toList [48, 49, 50, 51, 52, 53, 54, 55, 56, 57]).toArray.toList == []) = _
  rw [tb_list, Bool.eq_iff_iff, beq_iff_eq, List.all_eq_true]
  show Go.Lib.trimS l _ = [] ↔ _
  rw [trimS_nil]
  exact ⟨fun h b hb => by rw [dig_set]; exact h b hb, fun h b hb => by rw [← dig_set]; exact h b hb⟩
theorem digits_val (l : List UInt8) (hl : l.length ≤ 9223372036854775807) (k : Nat) : portref2_digits (tb l) (k : Int) = some (digB k l) := by
  unfold portref2_digits
  obtain ⟨t, ht, he⟩ := trim_digits l hl
  have hnil : strEq (tb l) (⟨#[]⟩ : ByteArray) = decide (l = []) := tb_eq l []
  rw [hnil, tb_size]
  unfold digB
  by_cases h0 : l = []
  · subst h0
    rfl
  rw [decide_eq_false h0]
  simp only [Bool.not_false, if_true, Bool.true_and]
  by_cases h1 : l.length ≤ k
  · rw [if_pos (by simp; omega), ht, Option.bind_some, he, decide_eq_true h1, Bool.true_and]
    by_cases h2 : l.all dig = true
    · rw [if_pos h2, h2, Bool.true_and]
      by_cases h3 : l.length = 1
      · rw [if_pos (by simp [h3]), decide_eq_true h3]; rfl
      · rw [if_neg (by simp; omega), decide_eq_false h3, Bool.false_or]
        have hi : idxS (tb l) 0 = l[0]? := tb_idx l 0
        rw [hi]
        cases l with
        | nil => exact absurd rfl h0
        | cons b r =>
          have e4 : ((b.toNat : Int) != 48) = decide ((b :: r).head? ≠ some 48) := by
            rw [Bool.eq_iff_iff, bne_iff_ne, decide_eq_true_eq]
            constructor
            · intro h q
              have : b = 48 := Option.some.inj q
              subst this
              exact h rfl
            · intro h q
              apply h
              show some b = some 48
              congr 1
              apply UInt8.toNat_inj.1
              show b.toNat = 48
              omega
          exact congrArg some e4
    · rw [if_neg h2]
      have : l.all dig = false := by simpa using h2
      rw [this]
      rfl
  · rw [if_neg (by simp; omega), decide_eq_false h1]
    rfl
end Go.Proofs.YtnnbhehaplphiaaGreatDoor.M

/-
  Ratios: what the texts of digits are read as, on both sides.
-/
namespace Go.Proofs.YtnnbhehaplphiaaGreatDoor.M
open Go Go.Pu Go.Lib
set_option linter.unusedSimpArgs false
set_option linter.unusedVariables false

theorem whileB_el3 {S R T : Type} {b : S → Option (Ctl S R)} {s0 : S} {G : R → Option T} {F : S → Option T} (P : Option T → Prop) (I J : S → Prop) (mu : S → Nat) (h0 : I s0)
    (round : ∀ s, I s → (∃ t, b s = some (.nx t) ∧ I t ∧ mu t < mu s) ∨ (∃ t, b s = some (.bk t) ∧ J t) ∨ (∃ r, b s = some (.rt r) ∧ P (G r))) (hF : ∀ s, J s → P (F s)) : P (Option.bind (whileB b s0) fun o => o.andThen G F) := by
  obtain ⟨r, hr, hQ⟩ := whileB_spec (body := b) I mu (fun r => (∃ t, r = .fin t ∧ J t) ∨ (∃ t, r = .rt t ∧ P (G t))) h0 (by
    intro s hs
    rcases round s hs with ⟨t, h1, h2, h3⟩ | ⟨t, h1, h2⟩ | ⟨t, h1, h2⟩
    · exact ⟨_, h1, h2, h3⟩
    · exact ⟨_, h1, .inl ⟨t, rfl, h2⟩⟩
    · exact ⟨_, h1, .inr ⟨t, rfl, h2⟩⟩)
  rw [hr]
  rcases hQ with ⟨t, rfl, h⟩ | ⟨t, rfl, h⟩
  · exact hF t h
  · exact h

theorem checkDigits_val (l : List UInt8) (hl : l.length ≤ 20000) : staff_checkDigits (tb l) = some (if digB 20000 l = true then 0 else 8) := by
  unfold staff_checkDigits
  refine whileB_el3 (s0 := (0 : Int)) (fun o => o = some (if digB 20000 l = true then 0 else 8)) (fun s => ∃ k : Nat, s = (k : Int) ∧ k ≤ l.length ∧ ∀ j c, j < k → l[j]? = some c → dig c = true)
    (fun _ => l.all dig = true) (fun s => l.length - s.toNat) ⟨0, rfl, Nat.zero_le _, fun j c h => by omega⟩ ?_ ?_
  · rintro s ⟨k, rfl, hk, hd⟩
    rw [tb_size]
    by_cases hlt : k < l.length
    · have e : decide ((k : Int) < (l.length : Int)) = true := by rw [decide_eq_true_eq]; omega
      have hc : l[k]? = some l[k] := List.getElem?_eq_getElem hlt
      generalize l[k] = c at hc
      simp only [e, if_true, tb_idx, hc, Option.bind_some]
      by_cases hdc : dig c = true
      · left
        have hr := hdc
        unfold dig at hr
        rw [Bool.and_eq_true, decide_eq_true_eq, decide_eq_true_eq] at hr
        have e1 : decide ((c.toNat : Int) < 48) = false := by rw [decide_eq_false_iff_not]; omega
        have e2 : decide ((57 : Int) < (c.toNat : Int)) = false := by rw [decide_eq_false_iff_not]; omega
        have w1 : w64 ((k : Int) + 1) = ((k + 1 : Nat) : Int) := by rw [w64_id (by omega) (by omega)]; omega
        simp only [e1, e2, Bool.false_eq_true, if_false, Option.bind_some, w1]
        refine ⟨_, rfl, ⟨k + 1, rfl, by omega, fun j c' hj hc' => ?_⟩, by show l.length - ((k + 1 : Nat) : Int).toNat < l.length - (k : Int).toNat; omega⟩
        by_cases hjk : j = k
        · subst hjk
          rw [hc] at hc'
          cases hc'
          exact hdc
        · exact hd j c' (by omega) hc'
      · right; right
        have hnd : digB 20000 l = false := by
          have h1 : l.all dig = false := by
            rw [← Bool.not_eq_true, List.all_eq_true]
            exact fun h => hdc (h c (List.mem_of_getElem? hc))
          unfold digB
          rw [h1]
          simp
        refine ⟨8, ?_, by rw [hnd]; rfl⟩
        by_cases h48 : (c.toNat : Int) < 48
        · have e1 : decide ((c.toNat : Int) < 48) = true := by rw [decide_eq_true_eq]; exact h48
          simp only [e1, if_true, Option.bind_some]
        · have e1 : decide ((c.toNat : Int) < 48) = false := by rw [decide_eq_false_iff_not]; exact h48
          have e2 : decide ((57 : Int) < (c.toNat : Int)) = true := by
            rw [decide_eq_true_eq]
            unfold dig at hdc
            rw [Bool.and_eq_true, decide_eq_true_eq, decide_eq_true_eq] at hdc
            omega
          simp only [e1, e2, Bool.false_eq_true, if_false, if_true, Option.bind_some]
    · right; left
      have e : decide ((k : Int) < (l.length : Int)) = false := by rw [decide_eq_false_iff_not]; omega
      simp only [e, Bool.false_eq_true, if_false]
      refine ⟨_, rfl, ?_⟩
      rw [List.all_eq_true]
      intro c hc
      obtain ⟨j, hj, rfl⟩ := List.getElem_of_mem hc
      exact hd j _ (by omega) (List.getElem?_eq_getElem hj)
  · intro s hall
    have hnil : strEq (tb l) (⟨#[]⟩ : ByteArray) = decide (l = []) := tb_eq l []
    rw [hnil, tb_size]
    cases l with
    | nil => rfl
    | cons c r =>
      have hi : idxS (tb (c :: r)) 0 = some c := tb_idx (c :: r) 0
      rw [decide_eq_false (by simp : ¬ (c :: r) = [])]
      simp only [Bool.false_eq_true, if_false, hi, Option.bind_some]
      unfold digB
      rw [hall]
      have e48 : ((c.toNat : Int) == 48) = decide (c = 48) := by
        rw [Bool.eq_iff_iff, beq_iff_eq, decide_eq_true_eq]
        constructor
        · intro h
          apply UInt8.toNat_inj.1
          show c.toNat = 48
          omega
        · rintro rfl
          rfl
      rw [e48]
      by_cases h1 : c = 48
      · subst h1
        by_cases h2 : r = []
        · subst h2
          simp
        · have h3 : 0 < r.length := List.length_pos_iff.2 h2
          have e2 : decide ((1 : Int) < (((48 : UInt8) :: r).length : Int)) = true := by rw [decide_eq_true_eq]; simp; omega
          rw [e2]
          simp [h2]
      · simp [h1, hl]
        simp at hl
        omega

theorem bp_pow (k : Nat) : bp k = ((10 ^ (9 * k) : Nat) : Int) := by
  induction k with
  | zero => rfl
  | succ k ih =>
    rw [bp, ih, Nat.mul_succ, Nat.pow_add]
    simp
    omega

theorem readNat_spec (l : List UInt8) (hl : l.length ≤ 100000) (hd : l.all dig = true) : ∃ r, staff_readNat (tb l) = some r ∧ nv r = (dval 0 l : Nat) ∧ Dig r ∧ Trm r ∧ r.length * 9 ≤ l.length + 8 := by
  unfold staff_readNat
  have hdm : ∀ c ∈ l, dig c = true := List.all_eq_true.1 hd
  refine whileB_el (s0 := (tb l, ([] : List Int))) (fun o => ∃ r, o = some r ∧ nv r = (dval 0 l : Nat) ∧ Dig r ∧ Trm r ∧ r.length * 9 ≤ l.length + 8)
    (fun s => ∃ m : Nat, s.1 = tb (l.take m) ∧ m ≤ l.length ∧ Dig s.2 ∧ nv s.2 = (dval 0 (l.drop m) : Nat) ∧ (m = 0 ∨ 9 * s.2.length = l.length - m) ∧ s.2.length * 9 ≤ l.length + 8) (fun s => Dig s.2 ∧ nv s.2 = (dval 0 l : Nat) ∧ s.2.length * 9 ≤ l.length + 8) (fun s => s.1.size)
    ⟨l.length, by rw [List.take_length], Nat.le_refl _, fun x hx => by simp at hx, by simp [nv, dval], .inr (by simp), by simp⟩ ?_ ?_
  · rintro ⟨s, a⟩ ⟨m, hs, hm, h1, h2, h3, h4⟩
    dsimp only at hs h1 h2 h3 h4 ⊢
    subst hs
    have hsz : (tb (l.take m)).size = m := by rw [tb_size, List.length_take]; omega
    rw [hsz]
    by_cases hm0 : 0 < m
    · left
      have e : decide ((0 : Int) < (m : Int)) = true := by rw [decide_eq_true_eq]; omega
      obtain ⟨k, hk⟩ : ∃ k : Nat, k = m - 9 := ⟨_, rfl⟩
      have hw : w64 ((m : Int) - 9) = (m : Int) - 9 := w64_id (by omega) (by omega)
      have hmx : (if 0 < w64 ((m : Int) - 9) then w64 ((m : Int) - 9) else 0) = (k : Int) := by
        rw [hw]
        split <;> omega
      have hs1 : sliceS (tb (l.take m)) (some (k : Int)) none = some (tb ((l.take m).drop k)) := tb_sliceL _ _ (by rw [List.length_take]; omega)
      have hs2 : sliceS (tb (l.take m)) none (some (k : Int)) = some (tb (l.take k)) := by
        rw [tb_sliceH _ _ (by rw [List.length_take]; omega), List.take_take, Nat.min_eq_left (by omega)]
      have hcl : ((l.take m).drop k).length = m - k := by rw [List.length_drop, List.length_take]; omega
      have hcd : ((l.take m).drop k).all dig = true := List.all_eq_true.2 fun c hc => hdm c (List.mem_of_mem_take (List.mem_of_mem_drop hc))
      have hat : strconv_Atoi (tb ((l.take m).drop k)) = some (((dval 0 ((l.take m).drop k) : Nat) : Int), false) := by
        unfold strconv_Atoi
        rw [if_pos (by rw [tb_size, hcl]; omega), tb_list, atoi_digits _ (by omega) (by intro h; rw [h] at hcl; simp at hcl; omega) hcd]
      have hv := dval_lt _ hcd
      have hv9 : dval 0 ((l.take m).drop k) < 1000000000 := by
        have := Nat.pow_le_pow_right (n := 10) (by omega) (show ((l.take m).drop k).length ≤ 9 by omega)
        omega
      have happ : appendL 17592186044416 a [((dval 0 ((l.take m).drop k) : Nat) : Int)] = some (a ++ [((dval 0 ((l.take m).drop k) : Nat) : Int)]) := by
        unfold appendL
        rw [if_pos (by simp; omega)]
      simp only [e, if_true, hmx, hs1, hs2, hat, happ, Option.bind_some]
      have h3' : 9 * a.length = l.length - m := h3.resolve_left (by omega)
      refine ⟨_, rfl, ⟨k, rfl, by omega, h1.append fun x hx => by simp at hx; omega, ?_, ?_, ?_⟩, ?_⟩
      · show nv (a ++ [((dval 0 ((l.take m).drop k) : Nat) : Int)]) = _
        have e1 : l.drop k = (l.take m).drop k ++ l.drop m := by
          have := List.take_append_drop m l
          conv => lhs; rw [← this]
          rw [List.drop_append_of_le_length (by rw [List.length_take]; omega)]
        rw [nv_append, h2, e1, dval_app, bp_pow, h3', List.length_drop]
        simp only [nv]
        push_cast
        rw [Int.add_zero, Int.mul_comm]
        omega
      · show k = 0 ∨ 9 * (a ++ [_]).length = _
        rw [List.length_append, List.length_singleton]
        omega
      · show (a ++ [_]).length * 9 ≤ _
        rw [List.length_append, List.length_singleton]
        omega
      · show (tb (l.take k)).size < m
        rw [tb_size, List.length_take]
        omega
    · right
      obtain rfl : m = 0 := by omega
      refine ⟨_, rfl, h1, by simpa using h2, h4⟩
  · rintro ⟨s, a⟩ ⟨h1, h2, h3⟩
    dsimp only at h1 h2 h3 ⊢
    obtain ⟨r, r1, r2, r3, r4, r5⟩ := trimmed_spec a h1 (by omega)
    rw [r1]
    exact ⟨r, rfl, by rw [r2]; exact h2, r3, r4, by omega⟩

theorem trmW_ge {l : List UInt32} (h : l = [] ∨ cp (l.length - 1) ≤ wv l) : TrmW l := by
  rcases h with rfl | h
  · simp [TrmW]
  · intro hl
    rw [List.getLast?_eq_getElem?] at hl
    have h1 := (List.getElem?_eq_some_iff.1 hl).1
    have h2 := takeW_last hl
    have h3 := wv_append (l.take (l.length - 1)) [0]
    rw [h2] at h3
    have h4 := wv_lt (l.take (l.length - 1))
    rw [List.length_take, Nat.min_eq_left (by omega)] at h4
    simp [wv] at h3
    omega

theorem wholeText_spec (l : List UInt8) (hl : l.length ≤ 100000) (hd : l.all dig = true) : ∃ r, portref2_wholeText (tb l) = some r ∧ wv r = (dval 0 l : Nat) ∧ TrmW r ∧ r.length * 9 ≤ l.length + 8 := by
  unfold portref2_wholeText
  have hdm : ∀ c ∈ l, dig c = true := List.all_eq_true.1 hd
  have hsz : (tb l).size = l.length := tb_size l
  rw [hsz]
  refine whileB_el (s0 := (([] : List UInt32), (0 : Int))) (fun o => ∃ r, o = some r ∧ wv r = (dval 0 l : Nat) ∧ TrmW r ∧ r.length * 9 ≤ l.length + 8)
    (fun s => ∃ m : Nat, s.2 = (m : Int) ∧ m ≤ l.length ∧ TrmW s.1 ∧ wv s.1 = (dval 0 (l.take m) : Nat) ∧ s.1.length * 9 ≤ m + 8 ∧ (m = l.length ∨ s.1.length * 9 ≤ m)) (fun s => TrmW s.1 ∧ wv s.1 = (dval 0 l : Nat) ∧ s.1.length * 9 ≤ l.length + 8) (fun s => l.length - s.2.toNat)
    ⟨0, rfl, Nat.zero_le _, by simp [TrmW], by simp [wv, dval], by simp, .inr (by simp)⟩ ?_ ?_
  · rintro ⟨a, i⟩ ⟨m, hi, hm, h1, h2, h3, h4⟩
    dsimp only at hi h1 h2 h3 h4 ⊢
    subst hi
    by_cases hlt : m < l.length
    · left
      have e : decide ((m : Int) < (l.length : Int)) = true := by rw [decide_eq_true_eq]; omega
      have h4 := h4.resolve_left (by omega)
      obtain ⟨k, hk⟩ : ∃ k : Nat, k = min (m + 9) l.length := ⟨_, rfl⟩
      have hw : w64 ((m : Int) + 9) = ((m + 9 : Nat) : Int) := by rw [w64_id (by omega) (by omega)]; omega
      have hmn : (if (l.length : Int) < w64 ((m : Int) + 9) then (l.length : Int) else w64 ((m : Int) + 9)) = (k : Int) := by
        rw [hw]
        split <;> omega
      simp only [e, if_true, hmn]
      refine whileB_el (s0 := ((m : Int), (0 : Int), (1 : Int))) (fun o => ∃ t : List UInt32 × Int, (Option.bind o fun (s27 : List UInt32 × Int) => some (Ctl.nx (R := List UInt32) (s27.1, s27.2))) = some (Ctl.nx t) ∧ (∃ m' : Nat, t.2 = (m' : Int) ∧ m' ≤ l.length ∧ TrmW t.1 ∧ wv t.1 = (dval 0 (l.take m') : Nat) ∧ t.1.length * 9 ≤ m' + 8 ∧ (m' = l.length ∨ t.1.length * 9 ≤ m')) ∧ l.length - t.2.toNat < l.length - (m : Int).toNat)
        (fun s => ∃ j : Nat, s.1 = (j : Int) ∧ m ≤ j ∧ j ≤ k ∧ s.2.1 = (dval 0 ((l.take j).drop m) : Nat) ∧ s.2.2 = ((10 ^ (j - m) : Nat) : Int)) (fun s => s.1 = (k : Int) ∧ s.2.1 = (dval 0 ((l.take k).drop m) : Nat) ∧ s.2.2 = ((10 ^ (k - m) : Nat) : Int)) (fun s => k - s.1.toNat)
        ⟨m, rfl, Nat.le_refl _, by omega, by rw [List.drop_of_length_le (by rw [List.length_take]; omega)]; rfl, by simp⟩ ?_ ?_
      · rintro ⟨j', p, sc⟩ ⟨j, hj, hj1, hj2, hp, hsc⟩
        dsimp only at hj hp hsc ⊢
        subst hj hp hsc
        by_cases hjk : j < k
        · left
          have e5 : decide ((j : Int) < (k : Int)) = true := by rw [decide_eq_true_eq]; omega
          have hc : l[j]? = some l[j] := List.getElem?_eq_getElem (by omega)
          have hcd := hdm l[j] (List.getElem_mem _)
          generalize l[j] = c at hc hcd
          unfold dig at hcd
          rw [Bool.and_eq_true, decide_eq_true_eq, decide_eq_true_eq] at hcd
          have hall : ((l.take j).drop m).all dig = true := List.all_eq_true.2 fun c hc => hdm c (List.mem_of_mem_take (List.mem_of_mem_drop hc))
          have hv := dval_lt _ hall
          have hlen : ((l.take j).drop m).length = j - m := by rw [List.length_drop, List.length_take]; omega
          have hpw := Nat.pow_le_pow_right (n := 10) (by omega) (show j - m ≤ 8 by omega)
          rw [hlen] at hv
          have hu8 : ((toU8 ((c.toNat : Int) - 48)).toNat : Int) = (c.toNat : Int) - 48 := by
            have h : ∀ x : Int, 0 ≤ x → x < 256 → ((toU8 x).toNat : Int) = x := fun x a b => toU8_small a b
            exact h _ (by omega) (by omega)
          have w1 : w64 ((j : Int) + 1) = ((j + 1 : Nat) : Int) := by rw [w64_id (by omega) (by omega)]; omega
          have w2 : IntKind.wrap .u64 (10 * ((dval 0 ((l.take j).drop m) : Nat) : Int)) = 10 * ((dval 0 ((l.take j).drop m) : Nat) : Int) := wrapU64_id (by omega) (by omega)
          have w3 : IntKind.wrap .u64 ((c.toNat : Int) - 48) = (c.toNat : Int) - 48 := wrapU64_id (by omega) (by omega)
          have w4 : IntKind.wrap .u64 (10 * ((dval 0 ((l.take j).drop m) : Nat) : Int) + ((c.toNat : Int) - 48)) = 10 * ((dval 0 ((l.take j).drop m) : Nat) : Int) + ((c.toNat : Int) - 48) := wrapU64_id (by omega) (by omega)
          have w5 : IntKind.wrap .u64 (10 * ((10 ^ (j - m) : Nat) : Int)) = ((10 ^ (j + 1 - m) : Nat) : Int) := by
            rw [wrapU64_id (by omega) (by omega), show j + 1 - m = (j - m) + 1 by omega, Nat.pow_succ]
            push_cast
            omega
          simp only [e5, if_true, tb_idx, hc, Option.bind_some, hu8, w1, w2, w3, w4, w5]
          refine ⟨_, rfl, ⟨j + 1, rfl, by omega, by omega, ?_, rfl⟩, by show k - ((j + 1 : Nat) : Int).toNat < k - (j : Int).toNat; omega⟩
          show 10 * ((dval 0 ((l.take j).drop m) : Nat) : Int) + ((c.toNat : Int) - 48) = (dval 0 ((l.take (j + 1)).drop m) : Nat)
          have e6 : (l.take (j + 1)).drop m = (l.take j).drop m ++ [c] := by
            rw [List.take_add_one, hc]
            show (l.take j ++ [c]).drop m = _
            rw [List.drop_append_of_le_length (by rw [List.length_take]; omega)]
          rw [e6, dval_snoc]
          omega
        · right
          have e5 : decide ((j : Int) < (k : Int)) = false := by rw [decide_eq_false_iff_not]; omega
          obtain rfl : j = k := by omega
          simp only [e5, Bool.false_eq_true, if_false]
          exact ⟨_, rfl, rfl, rfl, rfl⟩
      · rintro ⟨j', p, sc⟩ ⟨hj, hp, hsc⟩
        dsimp only at hj hp hsc ⊢
        subst hj
        have hall : ((l.take k).drop m).all dig = true := List.all_eq_true.2 fun c hc => hdm c (List.mem_of_mem_take (List.mem_of_mem_drop hc))
        have hv := dval_lt _ hall
        have hlen : ((l.take k).drop m).length = k - m := by rw [List.length_drop, List.length_take]; omega
        rw [hlen] at hv
        have hpw := Nat.pow_le_pow_right (n := 10) (by omega) (show k - m ≤ 9 by omega)
        have hp1 := Nat.pow_le_pow_right (n := 10) (by omega) (Nat.zero_le (k - m))
        have hval : (dval 0 (l.take k) : Nat) = dval 0 (l.take m) * 10 ^ (k - m) + dval 0 ((l.take k).drop m) := by
          have e6 : l.take k = l.take m ++ (l.take k).drop m := by
            have := List.take_append_drop m (l.take k)
            rw [List.take_take, Nat.min_eq_left (by omega)] at this
            exact this.symm
          conv => lhs; rw [e6]
          rw [dval_app, hlen]
        have hp0 : 0 ≤ p ∧ p < sc := by omega
        have hsc0 : 1 ≤ sc ∧ sc ≤ 1000000000 := by omega
        have hwv : wv a * sc + p = (dval 0 (l.take k) : Nat) := by
          rw [hval, h2, hp, hsc]
          push_cast
          rfl
        clear hp hsc hval hv hall hlen hpw hp1
        refine rangeB_el (s0 := (a, p)) (fun o => ∃ t : List UInt32 × Int, (Option.bind o fun (s27 : List UInt32 × Int) => some (Ctl.nx (R := List UInt32) (s27.1, s27.2))) = some (Ctl.nx t) ∧ (∃ m' : Nat, t.2 = (m' : Int) ∧ m' ≤ l.length ∧ TrmW t.1 ∧ wv t.1 = (dval 0 (l.take m') : Nat) ∧ t.1.length * 9 ≤ m' + 8 ∧ (m' = l.length ∨ t.1.length * 9 ≤ m')) ∧ l.length - t.2.toNat < l.length - (m : Int).toNat)
          (fun j (s : List UInt32 × Int) => s.1.length = a.length ∧ (∀ q, j ≤ q → s.1[q]? = a[q]?) ∧ (0 ≤ s.2 ∧ s.2 ≤ 1000000000) ∧ wv (s.1.take j) + cp j * s.2 = wv (a.take j) * sc + p) ⟨rfl, fun q _ => rfl, ⟨hp0.1, by show p ≤ 1000000000; omega⟩, by simp [wv, cp]⟩ ?_ ?_
        · rintro j ⟨s, c⟩ hj ⟨g1, g2, g3, g4⟩
          dsimp only at g1 g2 g3 g4 ⊢
          have haj : a[j]? = some a[j] := List.getElem?_eq_getElem hj
          have hsj := g2 j (Nat.le_refl _)
          rw [haj] at hsj
          have hta := wv_take_succ haj
          generalize a[j] = x at haj hsj hta
          have hx := u32_rng x
          have hsx : 0 ≤ sc * (x.toNat : Int) ∧ sc * (x.toNat : Int) ≤ 1000000000 * 4294967295 := ⟨Int.mul_nonneg (by omega) hx.1, Int.mul_le_mul hsc0.2 (by omega) hx.1 (by decide)⟩
          have w2 : IntKind.wrap .u64 (sc * (x.toNat : Int)) = sc * (x.toNat : Int) := wrapU64_id (by omega) (by omega)
          have w3 : IntKind.wrap .u64 (c + sc * (x.toNat : Int)) = c + sc * (x.toNat : Int) := wrapU64_id (by omega) (by omega)
          simp only [idx_nat, hsj, Option.bind_some, w64u, w2, w3, setW_at _ (show j < s.length by omega), shr_u64 (show 0 ≤ c + sc * (x.toNat : Int) by omega)]
          refine ⟨_, rfl, by simpa using g1, fun q hq => ?_, ⟨by show 0 ≤ (c + sc * (x.toNat : Int)) / 4294967296; omega, by show (c + sc * (x.toNat : Int)) / 4294967296 ≤ 1000000000; omega⟩, ?_⟩
          · show (s.set j _)[q]? = a[q]?
            rw [List.getElem?_set_ne (by omega)]
            exact g2 q (by omega)
          · show wv ((s.set j (toU32 (c + sc * (x.toNat : Int)))).take (j + 1)) + cp (j + 1) * ((c + sc * (x.toNat : Int)) / 4294967296) = wv (a.take (j + 1)) * sc + p
            have hat : (s.set j (toU32 (c + sc * (x.toNat : Int))))[j]? = some (toU32 (c + sc * (x.toNat : Int))) := by rw [List.getElem?_set_self (by omega)]
            rw [wv_take_succ hat, List.take_set_of_le (Nat.le_refl _), hta, toU32_mod, cp_succ, Int.add_assoc, ← Int.mul_add]
            have : (c + sc * (x.toNat : Int)) % 4294967296 + 4294967296 * ((c + sc * (x.toNat : Int)) / 4294967296) = c + sc * (x.toNat : Int) := by omega
            rw [this, Int.mul_add, Int.add_mul, Int.mul_assoc, Int.mul_comm (x.toNat : Int) sc]
            omega
        · rintro ⟨s, c⟩ ⟨g1, g2, g3, g4⟩
          dsimp only at g1 g2 g3 g4 ⊢
          rw [List.take_of_length_le (by omega), List.take_of_length_le (by omega), hwv] at g4
          have hmk : l.length - (k : Int).toNat < l.length - (m : Int).toNat := by omega
          by_cases hc : 0 < c
          · have e7 : decide ((0 : Int) < c) = true := by rw [decide_eq_true_eq]; exact hc
            have happ : appendL 35184372088832 s [toU32 c] = some (s ++ [toU32 c]) := by
              unfold appendL
              rw [if_pos (by simp; omega)]
            have hcm : ((toU32 c).toNat : Int) = c := by rw [toU32_mod]; omega
            simp only [e7, if_true, happ, Option.bind_some]
            refine ⟨_, rfl, ⟨k, rfl, by omega, ?_, ?_, ?_, ?_⟩, hmk⟩
            · show TrmW (s ++ [toU32 c])
              unfold TrmW
              rw [List.getLast?_append, List.getLast?_singleton]
              intro h
              have : toU32 c = 0 := by simpa using h
              rw [this] at hcm
              have : ((0 : UInt32).toNat : Int) = 0 := rfl
              omega
            · show wv (s ++ [toU32 c]) = _
              rw [wv_append, ← g4, g1]
              simp only [wv, hcm, Int.mul_zero, Int.add_zero]
            · show (s ++ [toU32 c]).length * 9 ≤ _
              rw [List.length_append, List.length_singleton]
              omega
            · show k = l.length ∨ (s ++ [toU32 c]).length * 9 ≤ k
              rw [List.length_append, List.length_singleton]
              omega
          · have e7 : decide ((0 : Int) < c) = false := by rw [decide_eq_false_iff_not]; exact hc
            have hc0 : c = 0 := by omega
            rw [hc0, Int.mul_zero, Int.add_zero] at g4
            simp only [e7, Bool.false_eq_true, if_false, Option.bind_some]
            refine ⟨_, rfl, ⟨k, rfl, by omega, trmW_ge ?_, g4, by show s.length * 9 ≤ _; omega, by show k = l.length ∨ s.length * 9 ≤ k; omega⟩, hmk⟩
            show s = [] ∨ cp (s.length - 1) ≤ wv s
            by_cases h0 : a.length = 0
            · exact .inl (List.length_eq_zero_iff.1 (by omega))
            · right
              have h5 := wv_ge h1 (by omega)
              rw [g4, ← hwv, g1]
              have h6 := Int.mul_le_mul_of_nonneg_left hsc0.1 (wv_nonneg a)
              omega
    · right
      have e : decide ((m : Int) < (l.length : Int)) = false := by rw [decide_eq_false_iff_not]; omega
      obtain rfl : m = l.length := by omega
      simp only [e, Bool.false_eq_true, if_false]
      exact ⟨_, rfl, h1, by simpa using h2, h3⟩
  · rintro ⟨a, i⟩ ⟨h1, h2, h3⟩
    exact ⟨a, rfl, h2, h1, h3⟩
end Go.Proofs.YtnnbhehaplphiaaGreatDoor.M
