/-
  Differ and its document agree: plain part.
-/
import Derived.Test.YtdedbofpidgjhaaDoorKnowDiffersDifTable
namespace Go.Proofs.YtdedbofpidgjhaaDoor.M
open Go Go.Pu
set_option linter.unusedSimpArgs false
set_option linter.unusedVariables false

/-- pairs that rise -/
def Up (N M : Nat) : Nat → List (Nat × Nat) → Prop
  | j, [] => j ≤ M
  | j, p :: r => j ≤ p.2 ∧ p.2 < M ∧ p.1 < N ∧ Up N M (p.2 + 1) r
section
variable {x y : List ByteArray}
theorem goP_up : ∀ (n k j : Nat), j ≤ y.length → k + n ≤ x.length → Up x.length y.length j (goP x y n k j)
  | 0, k, j, h, _ => h
  | n + 1, k, j, h, hk => by
    by_cases h0 : TT x y k j = 0
    · rw [goP_zero h0]; exact h
    rw [goP_step h0 (by omega)]
    obtain ⟨f1, f2, f3, f4⟩ := fst_spec (y := y) (x[k]'(by omega)) h
    split
    · rename_i hc
      exact ⟨f1, hc.1, by show k < _; omega, goP_up n (k + 1) _ (by omega) (by omega)⟩
    · exact goP_up n (k + 1) j h (by omega)
theorem goP_len : ∀ (n k j : Nat), (goP x y n k j).length ≤ n
  | 0, k, j => Nat.le_refl _
  | n + 1, k, j => by
    rw [goP]
    split
    · simp
    · split
      · simp
      · split
        · have := goP_len n (k + 1) (fst0 (by assumption) y j + 1)
          simp only [List.length_cons]
          omega
        · have := goP_len n (k + 1) j
          omega
theorem tell_val (i j k l : Nat) (out : List know_Edit) (hjl : j ≤ l) (hl : l ≤ y.length) (hy : y.length ≤ 2000) (hk : k ≤ 2000) (hi : i ≤ 3000) (ho : out.length ≤ 3000) : know_Differ_1 (k : Int) (l : Int) (i : Int) (j : Int) out y = some (((k + 1 : Nat) : Int), ((l + 1 : Nat) : Int), (tellE y (i, j, out) (k, l)).2.2) ∧ (tellE y (i, j, out) (k, l)).2.2.length ≤ out.length + 1 := by
  unfold know_Differ_1 tellE
  have hw1 : w64 ((k : Int) + 1) = ((k + 1 : Nat) : Int) := by rw [w64_id (by omega) (by omega)]; rfl
  have hw2 : w64 ((l : Int) + 1) = ((l + 1 : Nat) : Int) := by rw [w64_id (by omega) (by omega)]; rfl
  have hw3 : w64 ((k : Int) - (i : Int)) = (k : Int) - (i : Int) := w64_id (by omega) (by omega)
  have hs : sliceL y (some (j : Int)) (some (l : Int)) = some ((y.take l).drop j) := by
    unfold sliceL bounds
    simp only [Option.getD_some]
    rw [if_pos (by omega)]
    simp
  have hc : slices_Clone_Lstring_string ((y.take l).drop j) = some ((y.take l).drop j) := by
    unfold slices_Clone_Lstring_string
    rw [appendL, if_pos (by simp; omega)]
    simp
  rw [hw1, hw2, hw3]
  by_cases h : i < k ∨ j < l
  · rw [if_pos h, if_pos (by simpa using h), hs, Option.bind_some, hc, Option.bind_some, appendL, if_pos (by simp; omega)]
    exact ⟨rfl, by simp⟩
  · rw [if_neg h, if_neg (by simpa using h)]
    exact ⟨rfl, Nat.le_succ _⟩
/-- the code's inner loop -/
theorem find_val (hy : y.length ≤ 2000) (a : ByteArray) (k : Nat) (hk : x[k]? = some a) {j : Nat} (hj : j ≤ y.length) : whileB (R := List know_Edit × Int) (fun s140 : Int => Option.bind (if (decide (s140 < (y.length : Int))) = true then (Option.bind (idx y s140) fun x159 => Option.bind (idx x (k : Int)) fun x163 => some (!(strEq x159 x163))) else (some false)) fun s155 => if s155 = true then some (.nx (w64 (s140 + 1))) else some (.bk s140)) (j : Int) = some (.fin ((fst0 a y j : Nat) : Int)) := by
  obtain ⟨o, ho, rfl⟩ := whileB_spec (R := List know_Edit × Int) (body := fun s140 : Int => Option.bind (if (decide (s140 < (y.length : Int))) = true then (Option.bind (idx y s140) fun x159 => Option.bind (idx x (k : Int)) fun x163 => some (!(strEq x159 x163))) else (some false)) fun s155 => if s155 = true then some (.nx (w64 (s140 + 1))) else some (.bk s140))
    (fun s => ∃ l : Nat, s = (l : Int) ∧ j ≤ l ∧ l ≤ y.length ∧ ∀ m (hm : m < y.length), j ≤ m → m < l → y[m] ≠ a) (fun s => y.length - s.toNat) (fun o => o = .fin ((fst0 a y j : Nat) : Int)) (s := (j : Int)) ⟨j, rfl, Nat.le_refl _, hj, fun m hm h1 h2 => by omega⟩ (by
      rintro _ ⟨l, rfl, l1, l2, l3⟩
      by_cases hl : l < y.length
      · have hw : w64 ((l : Int) + 1) = ((l + 1 : Nat) : Int) := by rw [w64_id (by omega) (by omega)]; rfl
        rw [if_pos (by simpa using hl), idx_lt _ _ hl, Option.bind_some, idx_nat, hk, Option.bind_some, Option.bind_some, strEq_iff]
        by_cases he : y[l] = a
        · rw [if_neg (by simpa using he)]
          refine ⟨_, rfl, ?_⟩
          show Lp.fin _ = _
          rw [fst_unique a hj l1 l2 l3 fun h => he]
        · rw [if_pos (by simpa using he), hw]
          refine ⟨_, rfl, ⟨l + 1, rfl, by omega, by omega, fun m hm h1 h2 => ?_⟩, by simp only [Int.toNat_natCast]; omega⟩
          by_cases hml : m = l
          · subst hml; exact he
          · exact l3 m hm h1 (by omega)
      · rw [if_neg (by simpa using hl), Option.bind_some, if_neg (by simp)]
        refine ⟨_, rfl, ?_⟩
        show Lp.fin _ = _
        rw [fst_unique a hj l1 l2 l3 fun h => absurd h hl])
  exact ho
/-- the code's loop -/
theorem code_main (hx : x.length ≤ 2000) (hy : y.length ≤ 2000) : ∃ (k j i : Nat) (out : List know_Edit), whileB (R := List know_Edit × Int) (fun s84 : Int × Int × Int × List know_Edit => if (decide (s84.1 < (x.length : Int))) = true then Option.bind (if ((decide (s84.2.2.1 ≤ (x.length : Int))) && (decide (s84.2.1 ≤ (y.length : Int)))) = true then Option.bind (idx (tabT x y) s84.2.2.1) fun x112 => Option.bind (idx x112 s84.2.1) fun x120 => some x120 else some 0) fun s104 => if (s104 == 0) = true then some (.bk (s84.1, s84.2.1, s84.2.2.1, s84.2.2.2)) else Option.bind (whileB (fun s140 => Option.bind (if (decide (s140 < (y.length : Int))) = true then (Option.bind (idx y s140) fun x159 => Option.bind (idx x s84.1) fun x163 => some (!(strEq x159 x163))) else (some false)) fun s155 => if s155 = true then some (.nx (w64 (s140 + 1))) else some (.bk s140)) s84.2.1) fun o131 => o131.andThen (fun y => some (.rt y)) fun s132 => Option.bind (if (decide (s132 < (y.length : Int))) = true then (Option.bind (idx (tabT x y) (w64 (s84.1 + 1))) fun x179 => Option.bind (idx x179 (w64 (s132 + 1))) fun x187 => some ((w64 (x187 + 1)) == s104)) else (some false)) fun s178 => Option.bind (if s178 = true then Option.bind (know_Differ_1 s84.1 s132 s84.2.2.1 s84.2.1 s84.2.2.2 y) fun x202 => some (x202.2.1, x202.1, x202.2.2) else some (s84.2.1, s84.2.2.1, s84.2.2.2)) fun s192 => some (.nx (w64 (s84.1 + 1), s192.1, s192.2.1, s192.2.2)) else some (.bk (s84.1, s84.2.1, s84.2.2.1, s84.2.2.2))) (0, 0, 0, ([] : (List know_Edit))) = some (.fin ((k : Int), (j : Int), (i : Int), out)) ∧ (goP x y x.length 0 0).foldl (tellE y) (0, 0, []) = (i, j, out) ∧ j ≤ y.length ∧ i ≤ x.length ∧ out.length ≤ 2000 := by
  obtain ⟨o, ho, k, j, i, out, rfl, h⟩ := whileB_spec (R := List know_Edit × Int) (body := fun s84 : Int × Int × Int × List know_Edit => if (decide (s84.1 < (x.length : Int))) = true then Option.bind (if ((decide (s84.2.2.1 ≤ (x.length : Int))) && (decide (s84.2.1 ≤ (y.length : Int)))) = true then Option.bind (idx (tabT x y) s84.2.2.1) fun x112 => Option.bind (idx x112 s84.2.1) fun x120 => some x120 else some 0) fun s104 => if (s104 == 0) = true then some (.bk (s84.1, s84.2.1, s84.2.2.1, s84.2.2.2)) else Option.bind (whileB (fun s140 => Option.bind (if (decide (s140 < (y.length : Int))) = true then (Option.bind (idx y s140) fun x159 => Option.bind (idx x s84.1) fun x163 => some (!(strEq x159 x163))) else (some false)) fun s155 => if s155 = true then some (.nx (w64 (s140 + 1))) else some (.bk s140)) s84.2.1) fun o131 => o131.andThen (fun y => some (.rt y)) fun s132 => Option.bind (if (decide (s132 < (y.length : Int))) = true then (Option.bind (idx (tabT x y) (w64 (s84.1 + 1))) fun x179 => Option.bind (idx x179 (w64 (s132 + 1))) fun x187 => some ((w64 (x187 + 1)) == s104)) else (some false)) fun s178 => Option.bind (if s178 = true then Option.bind (know_Differ_1 s84.1 s132 s84.2.2.1 s84.2.1 s84.2.2.2 y) fun x202 => some (x202.2.1, x202.1, x202.2.2) else some (s84.2.1, s84.2.2.1, s84.2.2.2)) fun s192 => some (.nx (w64 (s84.1 + 1), s192.1, s192.2.1, s192.2.2)) else some (.bk (s84.1, s84.2.1, s84.2.2.1, s84.2.2.2)))
    (fun s => ∃ (k j i : Nat) (out : List know_Edit) (P : List (Nat × Nat)), s = ((k : Int), (j : Int), (i : Int), out) ∧ P.foldl (tellE y) (0, 0, []) = (i, j, out) ∧ P ++ goP x y (x.length - k) k j = goP x y x.length 0 0 ∧ TT x y i j = TT x y k j ∧ i ≤ k ∧ k ≤ x.length ∧ j ≤ y.length ∧ out.length ≤ k) (fun s => x.length - s.1.toNat)
    (fun o => ∃ (k j i : Nat) (out : List know_Edit), o = .fin ((k : Int), (j : Int), (i : Int), out) ∧ (goP x y x.length 0 0).foldl (tellE y) (0, 0, []) = (i, j, out) ∧ j ≤ y.length ∧ i ≤ x.length ∧ out.length ≤ 2000) (s := (0, 0, 0, [])) ⟨0, 0, 0, [], [], rfl, rfl, rfl, rfl, Nat.le_refl _, Nat.zero_le _, Nat.zero_le _, Nat.le_refl _⟩ (by
      rintro _ ⟨k, j, i, out, P, rfl, hP, hG, hT, hik, hk, hj, hol⟩
      simp only
      by_cases hkn : k < x.length
      rotate_left
      · rw [if_neg (by simpa using hkn)]
        obtain rfl : k = x.length := by omega
        rw [Nat.sub_self, goP, List.append_nil] at hG
        exact ⟨_, rfl, _, _, _, _, rfl, by rw [← hG, hP], hj, hik, by omega⟩
      rw [if_pos (by simpa using hkn), if_pos (by simp; omega), tab_at (by omega), Option.bind_some, row_at hj, Option.bind_some, Option.bind_some, hT]
      by_cases h0 : TT x y k j = 0
      · rw [if_pos (by simpa using h0)]
        rw [goP_zero h0, List.append_nil] at hG
        exact ⟨_, rfl, _, _, _, _, rfl, by rw [← hG, hP], hj, by omega, by omega⟩
      rw [if_neg (by simpa using h0), find_val hy x[k] k (List.getElem?_eq_getElem hkn) hj, Option.bind_some, Lp.andThen_fin]
      obtain ⟨f1, f2, f3, f4⟩ := fst_spec (y := y) x[k] hj
      have hn : x.length - k = (x.length - (k + 1)) + 1 := by omega
      rw [hn, goP_step h0 hkn] at hG
      have hw1 : w64 ((k : Int) + 1) = ((k + 1 : Nat) : Int) := by rw [w64_id (by omega) (by omega)]; rfl
      have hw2 : w64 ((fst0 x[k] y j : Int) + 1) = ((fst0 x[k] y j + 1 : Nat) : Int) := by rw [w64_id (by omega) (by omega)]; rfl
      have hcond : (if (decide (((fst0 x[k] y j : Nat) : Int) < (y.length : Int))) = true then (Option.bind (idx (tabT x y) (w64 ((k : Int) + 1))) fun x179 => Option.bind (idx x179 (w64 ((fst0 x[k] y j : Int) + 1))) fun x187 => some ((w64 (x187 + 1)) == (TT x y k j : Int))) else (some false)) = some (decide (fst0 x[k] y j < y.length ∧ TT x y (k + 1) (fst0 x[k] y j + 1) + 1 = TT x y k j)) := by
        by_cases hl : fst0 x[k] y j < y.length
        · have hsm := TT_small (y := y) hx (k + 1) (fst0 x[k] y j + 1)
          rw [if_pos (by simpa using hl), hw1, hw2, tab_at (by omega), Option.bind_some, row_at (by omega), Option.bind_some, w64_id (by omega) (by omega)]
          congr 1
          rw [Bool.eq_iff_iff, beq_iff_eq, decide_eq_true_eq]
          constructor
          · intro h; exact ⟨hl, by omega⟩
          · intro h; have := h.2; omega
        · rw [if_neg (by simpa using hl), decide_eq_false fun h => hl h.1]
      rw [hcond, Option.bind_some]
      by_cases hc : fst0 x[k] y j < y.length ∧ TT x y (k + 1) (fst0 x[k] y j + 1) + 1 = TT x y k j
      · rw [decide_eq_true hc, if_pos rfl]
        rw [if_pos hc] at hG
        obtain ⟨ht, htl⟩ := tell_val (y := y) i j k (fst0 x[k] y j) out f1 f2 hy (by omega) (by omega) (by omega)
        rw [ht, Option.bind_some, Option.bind_some, hw1]
        refine ⟨_, rfl, ⟨k + 1, fst0 x[k] y j + 1, k + 1, _, P ++ [(k, fst0 x[k] y j)], rfl, ?_, ?_, rfl, Nat.le_refl _, by omega, by omega, by show (tellE _ _ _).2.2.length ≤ _; omega⟩, by simp only [Int.toNat_natCast]; omega⟩
        · rw [List.foldl_append, hP]
          rfl
        · rw [← hG, List.append_assoc]
          rfl
      · rw [decide_eq_false hc, if_neg (by simp), Option.bind_some, hw1]
        rw [if_neg hc] at hG
        exact ⟨_, rfl, ⟨k + 1, j, i, out, P, rfl, hP, hG, by rw [hT, skip_same hkn hj hc], by omega, by omega, hj, by omega⟩, by simp only [Int.toNat_natCast]; omega⟩)
  exact ⟨k, j, i, out, ho, h⟩
/-- the document's inner loop -/
theorem pick_val (hx : x.length ≤ 2000) (hy : y.length ≤ 2000) {k j : Nat} (hk : k < x.length) (hj : j ≤ y.length) (pa pb : List Int) (hpa : pa.length ≤ 3000) (hpb : pb.length ≤ 3000) : ∃ q, whileB (R := Empty) (fun s358 : List Int × List Int × Int × Int => if (decide (s358.2.2.2 < (y.length : Int))) = true then Option.bind (idx x (k : Int)) fun x374 => Option.bind (idx y s358.2.2.2) fun x378 => Option.bind (if (strEq x374 x378) = true then (Option.bind (idx (tabT x y) (w64 ((k : Int) + 1))) fun x384 => Option.bind (idx x384 (w64 (s358.2.2.2 + 1))) fun x392 => Option.bind (idx (rowT x y k) s358.2.2.1) fun x403 => some ((w64 (1 + x392)) == x403)) else (some false)) fun s383 => if s383 = true then Option.bind (appendL 17592186044416 s358.1 ([(k : Int)] : List Int)) fun x416 => Option.bind (appendL 17592186044416 s358.2.1 ([s358.2.2.2] : List Int)) fun x427 => some (.bk (x416, x427, w64 (s358.2.2.2 + 1), 0)) else some (.nx (s358.1, s358.2.1, s358.2.2.1, w64 (s358.2.2.2 + 1))) else some (.bk (s358.1, s358.2.1, s358.2.2.1, s358.2.2.2))) (pa, pb, (j : Int), (j : Int))
    = some (.fin (if fst0 x[k] y j < y.length ∧ TT x y (k + 1) (fst0 x[k] y j + 1) + 1 = TT x y k j then (pa ++ [(k : Int)], pb ++ [((fst0 x[k] y j : Nat) : Int)], ((fst0 x[k] y j + 1 : Nat) : Int), q) else (pa, pb, (j : Int), q))) := by
  obtain ⟨f1, f2, f3, f4⟩ := fst_spec (y := y) x[k] hj
  obtain ⟨o, ho, q, rfl⟩ := whileB_spec (R := Empty) (body := fun s358 : List Int × List Int × Int × Int => if (decide (s358.2.2.2 < (y.length : Int))) = true then Option.bind (idx x (k : Int)) fun x374 => Option.bind (idx y s358.2.2.2) fun x378 => Option.bind (if (strEq x374 x378) = true then (Option.bind (idx (tabT x y) (w64 ((k : Int) + 1))) fun x384 => Option.bind (idx x384 (w64 (s358.2.2.2 + 1))) fun x392 => Option.bind (idx (rowT x y k) s358.2.2.1) fun x403 => some ((w64 (1 + x392)) == x403)) else (some false)) fun s383 => if s383 = true then Option.bind (appendL 17592186044416 s358.1 ([(k : Int)] : List Int)) fun x416 => Option.bind (appendL 17592186044416 s358.2.1 ([s358.2.2.2] : List Int)) fun x427 => some (.bk (x416, x427, w64 (s358.2.2.2 + 1), 0)) else some (.nx (s358.1, s358.2.1, s358.2.2.1, w64 (s358.2.2.2 + 1))) else some (.bk (s358.1, s358.2.1, s358.2.2.1, s358.2.2.2)))
    (fun s => ∃ l : Nat, s = (pa, pb, (j : Int), (l : Int)) ∧ j ≤ l ∧ l ≤ y.length ∧ ∀ m (hm : m < y.length), j ≤ m → m < l → ¬ (x[k] = y[m] ∧ TT x y (k + 1) (m + 1) + 1 = TT x y k j)) (fun s => y.length - s.2.2.2.toNat)
    (fun o => ∃ q, o = .fin (if fst0 x[k] y j < y.length ∧ TT x y (k + 1) (fst0 x[k] y j + 1) + 1 = TT x y k j then (pa ++ [(k : Int)], pb ++ [((fst0 x[k] y j : Nat) : Int)], ((fst0 x[k] y j + 1 : Nat) : Int), q) else (pa, pb, (j : Int), q))) (s := (pa, pb, (j : Int), (j : Int))) ⟨j, rfl, Nat.le_refl _, hj, fun m hm h1 h2 => by omega⟩ (by
      rintro _ ⟨l, rfl, l1, l2, l3⟩
      simp only
      by_cases hl : l < y.length
      rotate_left
      · rw [if_neg (by simpa using hl)]
        refine ⟨_, rfl, (l : Int), ?_⟩
        rw [if_neg fun hc => l3 _ hc.1 f1 (by omega) ⟨(f4 hc.1).symm, hc.2⟩]
      have hw1 : w64 ((k : Int) + 1) = ((k + 1 : Nat) : Int) := by rw [w64_id (by omega) (by omega)]; rfl
      have hw2 : w64 ((l : Int) + 1) = ((l + 1 : Nat) : Int) := by rw [w64_id (by omega) (by omega)]; rfl
      have hsm := TT_small (y := y) hx (k + 1) (l + 1)
      have hw3 : w64 (1 + (TT x y (k + 1) (l + 1) : Int)) = 1 + (TT x y (k + 1) (l + 1) : Int) := w64_id (by omega) (by omega)
      rw [if_pos (by simpa using hl), idx_lt _ _ hk, Option.bind_some, idx_lt _ _ hl, Option.bind_some, strEq_iff, hw1, hw2, tab_at (by omega), Option.bind_some, row_at (by omega), Option.bind_some, row_at hj, Option.bind_some, hw3]
      have hcond : (if (decide (x[k] = y[l])) = true then some (1 + (TT x y (k + 1) (l + 1) : Int) == (TT x y k j : Int)) else some false) = some (decide (x[k] = y[l] ∧ TT x y (k + 1) (l + 1) + 1 = TT x y k j)) := by
        by_cases he : x[k] = y[l]
        · rw [if_pos (by simpa using he)]
          congr 1
          rw [Bool.eq_iff_iff, beq_iff_eq, decide_eq_true_eq]
          constructor
          · intro h; exact ⟨he, by omega⟩
          · intro h; have := h.2; omega
        · rw [if_neg (by simpa using he), decide_eq_false fun h => he h.1]
      rw [hcond, Option.bind_some]
      by_cases hc : x[k] = y[l] ∧ TT x y (k + 1) (l + 1) + 1 = TT x y k j
      · have hd := first_does hk hj hl l1 hc.1 hc.2
        have hfl : fst0 x[k] y j = l := by
          rcases Nat.lt_trichotomy (fst0 x[k] y j) l with h | h | h
          · exact absurd ⟨(f4 hd.1).symm, hd.2⟩ (l3 _ hd.1 f1 h)
          · exact h
          · exact absurd hc.1.symm (f3 l hl l1 h)
        rw [decide_eq_true hc, if_pos rfl, appendL, if_pos (by simp; omega), Option.bind_some, appendL, if_pos (by simp; omega), Option.bind_some]
        refine ⟨_, rfl, 0, ?_⟩
        rw [if_pos hd, hfl]
      · rw [decide_eq_false hc, if_neg (by simp)]
        refine ⟨_, rfl, ⟨l + 1, rfl, by omega, by omega, fun m hm h1 h2 => ?_⟩, by simp only [Int.toNat_natCast]; omega⟩
        by_cases hml : m = l
        · subst hml; exact hc
        · exact l3 m hm h1 (by omega))
  exact ⟨q, ho⟩
/-- the document's pairs -/
theorem ref_pairs (hx : x.length ≤ 2000) (hy : y.length ≤ 2000) {R : Type} : ∃ q1 q2, whileB (R := R) (fun s305 : List Int × List Int × Int × Int => Option.bind (idx (tabT x y) s305.2.2.1) fun x320 => Option.bind (idx x320 s305.2.2.2) fun x328 => if (decide ((0 : Int) < x328)) = true then Option.bind (Option.bind (whileB (R := Empty) (fun s358 => if (decide (s358.2.2.2 < (y.length : Int))) = true then Option.bind (idx x s305.2.2.1) fun x374 => Option.bind (idx y s358.2.2.2) fun x378 => Option.bind (if (strEq x374 x378) = true then (Option.bind (idx (tabT x y) (w64 (s305.2.2.1 + 1))) fun x384 => Option.bind (idx x384 (w64 (s358.2.2.2 + 1))) fun x392 => Option.bind (idx x320 s358.2.2.1) fun x403 => some ((w64 (1 + x392)) == x403)) else (some false)) fun s383 => if s383 = true then Option.bind (appendL 17592186044416 s358.1 ([s305.2.2.1] : List Int)) fun x416 => Option.bind (appendL 17592186044416 s358.2.1 ([s358.2.2.2] : List Int)) fun x427 => some (.bk (x416, x427, w64 (s358.2.2.2 + 1), 0)) else some (.nx (s358.1, s358.2.1, s358.2.2.1, w64 (s358.2.2.2 + 1))) else some (.bk (s358.1, s358.2.1, s358.2.2.1, s358.2.2.2))) (s305.1, s305.2.1, s305.2.2.2, s305.2.2.2)) fun o345 => o345.andThen (fun y => y.elim) fun s346 => some (s346.1, s346.2.1, s346.2.2.1)) fun s334 => some (.nx (s334.1, s334.2.1, w64 (s305.2.2.1 + 1), s334.2.2)) else some (.bk (s305.1, s305.2.1, s305.2.2.1, s305.2.2.2))) (([] : (List Int)), ([] : (List Int)), 0, 0)
    = some (.fin ((goP x y x.length 0 0).map (fun p => (p.1 : Int)), (goP x y x.length 0 0).map (fun p => (p.2 : Int)), q1, q2)) := by
  obtain ⟨o, ho, q1, q2, rfl⟩ := whileB_spec (R := R) (body := fun s305 : List Int × List Int × Int × Int => Option.bind (idx (tabT x y) s305.2.2.1) fun x320 => Option.bind (idx x320 s305.2.2.2) fun x328 => if (decide ((0 : Int) < x328)) = true then Option.bind (Option.bind (whileB (R := Empty) (fun s358 => if (decide (s358.2.2.2 < (y.length : Int))) = true then Option.bind (idx x s305.2.2.1) fun x374 => Option.bind (idx y s358.2.2.2) fun x378 => Option.bind (if (strEq x374 x378) = true then (Option.bind (idx (tabT x y) (w64 (s305.2.2.1 + 1))) fun x384 => Option.bind (idx x384 (w64 (s358.2.2.2 + 1))) fun x392 => Option.bind (idx x320 s358.2.2.1) fun x403 => some ((w64 (1 + x392)) == x403)) else (some false)) fun s383 => if s383 = true then Option.bind (appendL 17592186044416 s358.1 ([s305.2.2.1] : List Int)) fun x416 => Option.bind (appendL 17592186044416 s358.2.1 ([s358.2.2.2] : List Int)) fun x427 => some (.bk (x416, x427, w64 (s358.2.2.2 + 1), 0)) else some (.nx (s358.1, s358.2.1, s358.2.2.1, w64 (s358.2.2.2 + 1))) else some (.bk (s358.1, s358.2.1, s358.2.2.1, s358.2.2.2))) (s305.1, s305.2.1, s305.2.2.2, s305.2.2.2)) fun o345 => o345.andThen (fun y => y.elim) fun s346 => some (s346.1, s346.2.1, s346.2.2.1)) fun s334 => some (.nx (s334.1, s334.2.1, w64 (s305.2.2.1 + 1), s334.2.2)) else some (.bk (s305.1, s305.2.1, s305.2.2.1, s305.2.2.2)))
    (fun s => ∃ (k j : Nat) (P : List (Nat × Nat)), s = (P.map (fun p => (p.1 : Int)), P.map (fun p => (p.2 : Int)), (k : Int), (j : Int)) ∧ P ++ goP x y (x.length - k) k j = goP x y x.length 0 0 ∧ k ≤ x.length ∧ j ≤ y.length ∧ P.length ≤ k) (fun s => x.length - s.2.2.1.toNat)
    (fun o => ∃ q1 q2, o = .fin ((goP x y x.length 0 0).map (fun p => (p.1 : Int)), (goP x y x.length 0 0).map (fun p => (p.2 : Int)), q1, q2)) (s := ([], [], 0, 0)) ⟨0, 0, [], rfl, rfl, Nat.zero_le _, Nat.zero_le _, Nat.le_refl _⟩ (by
      rintro _ ⟨k, j, P, rfl, hG, hk, hj, hPl⟩
      simp only
      rw [tab_at hk, Option.bind_some, row_at hj, Option.bind_some]
      by_cases h0 : TT x y k j = 0
      · rw [if_neg (by simp; omega)]
        rw [goP_zero h0, List.append_nil] at hG
        subst hG
        exact ⟨_, rfl, _, _, rfl⟩
      have hkn : k < x.length := by
        rcases Nat.lt_or_ge k x.length with h | h
        · exact h
        · exact absurd (TT_endA h j) h0
      rw [if_pos (by simp; omega)]
      obtain ⟨q, hq⟩ := pick_val hx hy hkn hj (P.map (fun p => (p.1 : Int))) (P.map (fun p => (p.2 : Int))) (by rw [List.length_map]; omega) (by rw [List.length_map]; omega)
      rw [hq, Option.bind_some, Lp.andThen_fin]
      obtain ⟨f1, f2, f3, f4⟩ := fst_spec (y := y) x[k] hj
      have hn : x.length - k = (x.length - (k + 1)) + 1 := by omega
      rw [hn, goP_step h0 hkn] at hG
      have hw1 : w64 ((k : Int) + 1) = ((k + 1 : Nat) : Int) := by rw [w64_id (by omega) (by omega)]; rfl
      by_cases hc : fst0 x[k] y j < y.length ∧ TT x y (k + 1) (fst0 x[k] y j + 1) + 1 = TT x y k j
      · rw [if_pos hc] at hG
        simp only [if_pos hc, Option.bind_some, hw1]
        refine ⟨_, rfl, ⟨k + 1, fst0 x[k] y j + 1, P ++ [(k, fst0 x[k] y j)], by simp, ?_, by omega, by omega, by simp; omega⟩, by simp only [Int.toNat_natCast]; omega⟩
        rw [← hG, List.append_assoc]
        rfl
      · rw [if_neg hc] at hG
        simp only [if_neg hc, Option.bind_some, hw1]
        exact ⟨_, rfl, ⟨k + 1, j, P, rfl, hG, by omega, hj, by omega⟩, by simp only [Int.toNat_natCast]; omega⟩)
  exact ⟨q1, q2, ho⟩
/-- the document's edits -/
theorem ref_edits (hx : x.length ≤ 2000) (hy : y.length ≤ 2000) (G : List (Nat × Nat)) (hG : Up x.length y.length 0 G) (hGl : G.length ≤ 2000) {R : Type} : ∃ q1 q2 q3, whileB (R := R) (fun s452 : List know_Edit × Int × Int × Int => if (decide (s452.2.2.2 ≤ ((G.map (fun p => (p.1 : Int))).length : Int))) = true then Option.bind (if (decide (s452.2.2.2 < ((G.map (fun p => (p.1 : Int))).length : Int))) = true then Option.bind (idx (G.map (fun p => (p.1 : Int))) s452.2.2.2) fun x475 => Option.bind (idx (G.map (fun p => (p.2 : Int))) s452.2.2.2) fun x480 => some (x475, x480) else some ((x.length : Int), (y.length : Int))) fun s467 => Option.bind (if ((decide (s452.2.1 < s467.1)) || (decide (s452.2.2.1 < s467.2))) = true then Option.bind (sliceL y (some s452.2.2.1) (some s467.2)) fun x503 => Option.bind (slices_Clone_Lstring_string x503) fun x506 => Option.bind (appendL 3518437208883 s452.1 ([(⟨s452.2.1, w64 (s467.1 - s452.2.1), x506⟩ : know_Edit)] : List know_Edit)) fun x531 => some x531 else some s452.1) fun s493 => some (.nx (s493, w64 (s467.1 + 1), w64 (s467.2 + 1), w64 (s452.2.2.2 + 1))) else some (.bk (s452.1, s452.2.1, s452.2.2.1, s452.2.2.2))) (([] : (List know_Edit)), 0, 0, 0)
    = some (.fin ((tellE y (G.foldl (tellE y) (0, 0, [])) (x.length, y.length)).2.2, q1, q2, q3)) := by
  obtain ⟨o, ho, q1, q2, q3, rfl⟩ := whileB_spec (R := R) (body := fun s452 : List know_Edit × Int × Int × Int => if (decide (s452.2.2.2 ≤ ((G.map (fun p => (p.1 : Int))).length : Int))) = true then Option.bind (if (decide (s452.2.2.2 < ((G.map (fun p => (p.1 : Int))).length : Int))) = true then Option.bind (idx (G.map (fun p => (p.1 : Int))) s452.2.2.2) fun x475 => Option.bind (idx (G.map (fun p => (p.2 : Int))) s452.2.2.2) fun x480 => some (x475, x480) else some ((x.length : Int), (y.length : Int))) fun s467 => Option.bind (if ((decide (s452.2.1 < s467.1)) || (decide (s452.2.2.1 < s467.2))) = true then Option.bind (sliceL y (some s452.2.2.1) (some s467.2)) fun x503 => Option.bind (slices_Clone_Lstring_string x503) fun x506 => Option.bind (appendL 3518437208883 s452.1 ([(⟨s452.2.1, w64 (s467.1 - s452.2.1), x506⟩ : know_Edit)] : List know_Edit)) fun x531 => some x531 else some s452.1) fun s493 => some (.nx (s493, w64 (s467.1 + 1), w64 (s467.2 + 1), w64 (s452.2.2.2 + 1))) else some (.bk (s452.1, s452.2.1, s452.2.2.1, s452.2.2.2)))
    (fun s => (∃ (k i j : Nat) (out : List know_Edit), s = (out, (i : Int), (j : Int), (k : Int)) ∧ k ≤ G.length ∧ (G.take k).foldl (tellE y) (0, 0, []) = (i, j, out) ∧ Up x.length y.length j (G.drop k) ∧ i ≤ 2001 ∧ out.length ≤ k) ∨ ∃ q1 q2, s = ((tellE y (G.foldl (tellE y) (0, 0, [])) (x.length, y.length)).2.2, q1, q2, ((G.length + 1 : Nat) : Int))) (fun s => G.length + 1 - s.2.2.2.toNat)
    (fun o => ∃ q1 q2 q3, o = .fin ((tellE y (G.foldl (tellE y) (0, 0, [])) (x.length, y.length)).2.2, q1, q2, q3)) (s := ([], 0, 0, 0)) (.inl ⟨0, 0, 0, [], rfl, Nat.zero_le _, rfl, hG, by omega, Nat.le_refl _⟩) (by
      rintro _ (⟨k, i, j, out, rfl, hk, hf, hup, hi, hol⟩ | ⟨q1, q2, rfl⟩)
      rotate_left
      · simp only
        rw [if_neg (by simp; omega)]
        exact ⟨_, rfl, _, _, _, rfl⟩
      simp only
      rw [if_pos (by simp; omega)]
      have hwk : w64 ((k : Int) + 1) = ((k + 1 : Nat) : Int) := by rw [w64_id (by omega) (by omega)]; rfl
      have step : ∀ (a b : Nat), j ≤ b → b ≤ y.length → a ≤ 2000 → (Option.bind (if ((decide ((i : Int) < (a : Int))) || (decide ((j : Int) < (b : Int)))) = true then Option.bind (sliceL y (some (j : Int)) (some (b : Int))) fun x503 => Option.bind (slices_Clone_Lstring_string x503) fun x506 => Option.bind (appendL 3518437208883 out ([(⟨(i : Int), w64 ((a : Int) - (i : Int)), x506⟩ : know_Edit)] : List know_Edit)) fun x531 => some x531 else some out) fun s493 => (some (.nx (s493, w64 ((a : Int) + 1), w64 ((b : Int) + 1), w64 ((k : Int) + 1))) : Option (Ctl (List know_Edit × Int × Int × Int) R))) = some (.nx ((tellE y (i, j, out) (a, b)).2.2, ((a + 1 : Nat) : Int), ((b + 1 : Nat) : Int), ((k + 1 : Nat) : Int))) ∧ (tellE y (i, j, out) (a, b)).2.2.length ≤ out.length + 1 := by
        intro a b h1 h2 h3
        obtain ⟨t1, t2⟩ := tell_val (y := y) i j a b out h1 h2 hy h3 (by omega) (by omega)
        unfold know_Differ_1 at t1
        obtain ⟨s, e1, e2⟩ := Option.bind_eq_some_iff.1 t1
        rw [e1, Option.bind_some]
        simp only [Option.some.injEq, Prod.mk.injEq] at e2
        rw [e2.1, e2.2.1, e2.2.2, hwk]
        exact ⟨rfl, t2⟩
      by_cases hkl : k < G.length
      · have hgk : G[k]? = some G[k] := List.getElem?_eq_getElem hkl
        rw [if_pos (by simp; omega), idx_nat, List.getElem?_map, hgk, Option.map_some, Option.bind_some, idx_nat, List.getElem?_map, hgk, Option.map_some, Option.bind_some, Option.bind_some]
        rw [List.drop_eq_getElem_cons hkl] at hup
        obtain ⟨u1, u2, u3, u4⟩ := hup
        obtain ⟨t1, t2⟩ := step G[k].1 G[k].2 u1 (by omega) (by omega)
        simp only
        rw [t1]
        refine ⟨_, rfl, .inl ⟨k + 1, G[k].1 + 1, G[k].2 + 1, _, rfl, by omega, ?_, u4, by omega, by omega⟩, by simp only [Int.toNat_natCast]; omega⟩
        rw [List.take_add_one, hgk, List.foldl_append, hf]
        rfl
      · obtain rfl : k = G.length := by omega
        rw [if_neg (by simp), Option.bind_some]
        rw [List.drop_length] at hup
        rw [List.take_length] at hf
        obtain ⟨t1, t2⟩ := step x.length y.length hup (Nat.le_refl _) (by omega)
        simp only
        rw [t1]
        refine ⟨_, rfl, .inr ⟨((x.length + 1 : Nat) : Int), ((y.length + 1 : Nat) : Int), ?_⟩, by simp only [Int.toNat_natCast]; omega⟩
        rw [hf])
  exact ⟨q1, q2, q3, ho⟩
end
theorem equal_strs (l : List ByteArray) : slices_Equal_Lstring_string l l = some true := by
  unfold slices_Equal_Lstring_string
  simp only [bne_self_eq_false, Bool.false_eq_true, if_false]
  obtain ⟨t, h, _⟩ := rangeB_inv (R := Bool) (b := fun k9 (_ : Unit) => Option.bind (idx l (k9 : Int)) fun x29 => Option.bind (idx l (k9 : Int)) fun x33 => if (!(strEq x29 x33)) = true then some (.rt false) else some (.nx ())) l.length (fun _ _ => True) (s := ()) trivial
    (fun k s hk _ => by rw [idx_lt _ _ hk]; simp [strEq_iff])
  rw [h]
  rfl
theorem alike_self (l : List know_Edit) : portref2_Alike l l = some true := by
  have h0 : slices_EqualFunc_Lknow_Edit_Lknow_Edit_know_Edit_know_Edit l l (fun y15 y16 => portref2_Alike_3 y15 y16) = some true := by
    unfold slices_EqualFunc_Lknow_Edit_Lknow_Edit_know_Edit_know_Edit
    simp only [bne_self_eq_false, Bool.false_eq_true, if_false]
    obtain ⟨t, h, _⟩ := rangeB_inv (R := Bool) (b := fun k9 (_ : Unit) => Option.bind (idx l (k9 : Int)) fun x29 => Option.bind (idx l (k9 : Int)) fun x47 => Option.bind (portref2_Alike_3 x29 x47) fun x71 => if (!x71) = true then some (.rt false) else some (.nx ())) l.length (fun _ _ => True) (s := ()) trivial
      (fun k s hk _ => by
        rw [idx_lt _ _ hk]
        simp [portref2_Alike_3, equal_strs])
    rw [h]
    rfl
  unfold portref2_Alike
  simp [h0]
theorem body_all (s : ByteArray) : know_checkBody s = some 4 ∨ (know_checkBody s = some 0 ∧ ∃ l, know_lines s = some l ∧ l.length ≤ 2000) := by
  by_cases h : s.size ≤ 20000
  · obtain ⟨l, h1, _, h2⟩ := body_ok s (by omega)
    by_cases hc : 20000 < s.size ∨ 2000 < l.length
    · left; rw [h2, if_pos hc]
    · right; rw [h2, if_neg hc]; exact ⟨rfl, l, h1, by omega⟩
  · left
    unfold know_checkBody
    rw [if_pos (by simp; omega)]
    rfl
theorem differ_eq (a b : ByteArray) : ∃ r, know_Differ a b = some r ∧ portref2_DifferOf a b = some r := by
  have hor : ∀ p q : Int, cmp_Or_api_Errno [p, q] = some (if p ≠ 0 then p else q) := by
    intro p q
    by_cases ha : p = 0 <;> by_cases hb : q = 0 <;> simp [cmp_Or_api_Errno, rangeB, idx, ha, hb, Lp.andThen]
  unfold know_Differ portref2_DifferOf
  have hloop : ∀ p q : Int, know_checkBody a = some p → know_checkBody b = some q → rangeB (R := List know_Edit × Int) (fun k9 _ => Option.bind (idx ([a, b] : List ByteArray) (k9 : Int)) fun x29 => Option.bind (portref2_bodyFault x29) fun x33 => if (x33 != 0) = true then some (.rt (([] : (List know_Edit)), x33)) else some (.nx ())) (([a, b] : List ByteArray).length) 0 () = some (if p ≠ 0 then .rt ([], p) else if q ≠ 0 then .rt ([], q) else .fin ()) := by
    intro p q hp hq
    have e0 : idx ([a, b] : List ByteArray) ((0 : Nat) : Int) = some a := rfl
    have e1 : idx ([a, b] : List ByteArray) ((1 : Nat) : Int) = some b := rfl
    simp only [List.length_cons, List.length_nil, rangeB, Nat.zero_add, e0, e1, Option.bind_some, fault_same, hp, hq]
    by_cases h0 : p = 0 <;> by_cases h1 : q = 0 <;> simp [h0, h1]
  have htot : ∀ s, ∃ v, know_checkBody s = some v := fun s => by
    rcases body_all s with h | h
    · exact ⟨_, h⟩
    · exact ⟨_, h.1⟩
  obtain ⟨p, hp⟩ := htot a
  obtain ⟨q, hq⟩ := htot b
  rw [hloop p q hp hq, hp, hq, Option.bind_some, Option.bind_some, hor, Option.bind_some, Option.bind_some]
  by_cases h0 : p = 0
  rotate_left
  · refine ⟨([], p), ?_, ?_⟩ <;> simp [h0, Lp.andThen]
  by_cases h1 : q = 0
  rotate_left
  · refine ⟨([], q), ?_, ?_⟩ <;> simp [h0, h1, Lp.andThen]
  subst h0
  subst h1
  rcases body_all a with ha | ⟨_, x, hxl, hx⟩
  · rw [hp] at ha; cases ha
  rcases body_all b with hb | ⟨_, y, hyl, hy⟩
  · rw [hq] at hb; cases hb
  simp only [ne_eq, not_true_eq_false, if_false, bne_self_eq_false, Bool.false_eq_true, Lp.andThen_fin, lines_same, hxl, hyl, Option.bind_some]
  rw [common_val x y hx hy, Option.bind_some]
  have hwx : w64 ((x.length : Int) + 1) = ((x.length + 1 : Nat) : Int) := by rw [w64_id (by omega) (by omega)]; rfl
  rw [hwx, makeL, if_pos ⟨by omega, by omega⟩, Option.bind_some, Int.toNat_natCast]
  obtain ⟨t, t1, t2, t3⟩ := ref_rows x y hx hy (R := List know_Edit × Int)
  rw [t1, Option.bind_some, Lp.andThen_fin]
  obtain ⟨q, hq2⟩ := ref_table x y hx hy (R := List know_Edit × Int) t t2 t3
  rw [hq2, Option.bind_some, Lp.andThen_fin]
  obtain ⟨k, j, i, out, hcode, hfold, hj, hi, hol⟩ := code_main hx hy
  rw [hcode, Option.bind_some, Lp.andThen_fin]
  obtain ⟨q1, q2, hpairs⟩ := ref_pairs hx hy (R := List know_Edit × Int)
  simp only
  rw [hpairs, Option.bind_some, Lp.andThen_fin]
  have hup := goP_up (x := x) (y := y) x.length 0 0 (Nat.zero_le _) (by omega)
  have hgl := goP_len (x := x) (y := y) x.length 0 0
  generalize goP x y x.length 0 0 = G at hfold hup hgl
  obtain ⟨r1, r2, r3, hed⟩ := ref_edits hx hy G hup (by omega) (R := List know_Edit × Int)
  simp only
  rw [hed, Option.bind_some, Lp.andThen_fin, hfold]
  obtain ⟨u1, _⟩ := tell_val (y := y) i j x.length y.length out hj (Nat.le_refl _) hy hx (by omega) (by omega)
  rw [u1, Option.bind_some]
  exact ⟨_, rfl, rfl⟩
theorem differs_true (a b : ByteArray) : portlaw2_KnowDiffers a b = some true := by
  obtain ⟨r, h1, h2⟩ := differ_eq a b
  unfold portlaw2_KnowDiffers
  rw [h1, h2]
  simp [alike_self]
end Go.Proofs.YtdedbofpidgjhaaDoor.M
