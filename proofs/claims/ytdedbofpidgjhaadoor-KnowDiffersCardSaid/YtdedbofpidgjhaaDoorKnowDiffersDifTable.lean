/-
  Both sides fill the same table: plain part.
-/
import Derived.Test.YtdedbofpidgjhaaDoorKnowDiffersDifBase
namespace Go.Proofs.YtdedbofpidgjhaaDoor.M
open Go Go.Pu
set_option linter.unusedSimpArgs false
set_option linter.unusedVariables false

theorem strEq_iff (a b : ByteArray) : strEq a b = decide (a = b) := by
  rw [Bool.eq_iff_iff, decide_eq_true_eq]
  unfold strEq
  rw [beq_iff_eq, ByteArray.toList_eq, ByteArray.toList_eq]
  constructor
  · intro h
    apply ByteArray.ext
    exact Array.toList_inj.1 h
  · intro h; rw [h]
/-- the rows from n on are right -/
def Tok (x y : List ByteArray) (tbl : List (List Int)) (n : Nat) : Prop := tbl.length = x.length + 1 ∧ ∀ i, n ≤ i → i ≤ x.length → tbl[i]? = some (rowT x y i)
/-- and the row m from n on -/
def Rok (x y : List ByteArray) (tbl : List (List Int)) (m n : Nat) : Prop := Tok x y tbl (m + 1) ∧ ∃ row, tbl[m]? = some row ∧ row.length = y.length + 1 ∧ ∀ c, n ≤ c → c ≤ y.length → row[c]? = some (TT x y m c : Int)
section
variable {x y : List ByteArray} {tbl : List (List Int)} {m n : Nat}
theorem row_eq {row : List Int} {i : Nat} (hl : row.length = y.length + 1) (h : ∀ c, 0 ≤ c → c ≤ y.length → row[c]? = some (TT x y i c : Int)) : row = rowT x y i := by
  apply List.ext_getElem?
  intro c
  by_cases hc : c ≤ y.length
  · rw [h c (by omega) hc]
    have := row_at (x := x) (y := y) (i := i) hc
    rw [idx_nat] at this
    exact this.symm
  · rw [List.getElem?_eq_none (by omega), List.getElem?_eq_none (by simp [rowT]; omega)]
theorem Rok.done (h : Rok x y tbl m 0) : Tok x y tbl m := by
  obtain ⟨⟨h1, h2⟩, row, h3, h4, h5⟩ := h
  refine ⟨h1, fun i q1 q2 => ?_⟩
  by_cases hi : i = m
  · subst hi
    rw [h3, row_eq h4 h5]
  · exact h2 i (by omega) q2
theorem Tok.all (h : Tok x y tbl 0) : tbl = tabT x y := by
  apply List.ext_getElem?
  intro i
  by_cases hi : i ≤ x.length
  · rw [h.2 i (by omega) hi]
    have := tab_at (x := x) (y := y) hi
    rw [idx_nat] at this
    exact this.symm
  · rw [List.getElem?_eq_none (by rw [h.1]; omega), List.getElem?_eq_none (by simp [tabT]; omega)]
theorem setI_nat {α : Type} (l : List α) (k : Nat) (v : α) (h : k < l.length) : setI l (k : Int) v = some (l.set k v) := by
  rw [setI, if_pos ⟨by omega, by omega⟩, Int.toNat_natCast]
theorem Tok.set (h : Tok x y tbl (m + 1)) (row : List Int) : Tok x y (tbl.set m row) (m + 1) := by
  refine ⟨by rw [List.length_set]; exact h.1, fun i q1 q2 => ?_⟩
  rw [List.getElem?_set_ne (by omega)]
  exact h.2 i q1 q2
theorem set_at {row : List Int} (h : tbl.length = x.length + 1) (hm : m ≤ x.length) : (tbl.set m row)[m]? = some row := List.getElem?_set_self (by omega)
theorem Rok.set {row : List Int} {q : Nat} {v : Int} (ht : Tok x y tbl (m + 1)) (hm : m ≤ x.length) (hl : row.length = y.length + 1) (hq : q ≤ y.length) (hr : ∀ c, q + 1 ≤ c → c ≤ y.length → row[c]? = some (TT x y m c : Int)) (hv : v = (TT x y m q : Int)) : Rok x y (tbl.set m (row.set q v)) m q := by
  refine ⟨ht.set _, row.set q v, set_at ht.1 hm, by rw [List.length_set]; exact hl, fun c q1 q2 => ?_⟩
  by_cases hc : c = q
  · subst hc
    rw [List.getElem?_set_self (by omega), hv]
  · rw [List.getElem?_set_ne (by omega)]
    exact hr c (by omega) q2
theorem zeros_row (h : x.length ≤ m) : List.replicate (y.length + 1) (0 : Int) = rowT x y m := by
  refine row_eq (by simp) fun c _ hc => ?_
  rw [TT_endA h, List.getElem?_replicate, if_pos (by omega)]
  rfl
theorem TT_small (hx : x.length ≤ 2000) (i j : Nat) : TT x y i j ≤ 2000 := Nat.le_trans (TT_le i j) hx
end
theorem common_val (x y : List ByteArray) (hx : x.length ≤ 2000) (hy : y.length ≤ 2000) : know_common x y = some (tabT x y) := by
  have hwx : w64 ((x.length : Int) + 1) = ((x.length + 1 : Nat) : Int) := by rw [w64_id (by omega) (by omega)]; rfl
  have hwy : w64 ((y.length : Int) + 1) = ((y.length + 1 : Nat) : Int) := by rw [w64_id (by omega) (by omega)]; rfl
  have hmk : makeL 35184372088832 (w64 ((y.length : Int) + 1)) (0 : Int) = some (List.replicate (y.length + 1) 0) := by rw [hwy, makeL, if_pos ⟨by omega, by omega⟩, Int.toNat_natCast]
  unfold know_common
  rw [hwx, makeL, if_pos ⟨by omega, by omega⟩, Option.bind_some, Int.toNat_natCast, hmk, Option.bind_some, idx_nat, List.getElem?_replicate, if_pos (by omega), Option.bind_some, setI_nat _ _ _ (by simp), Option.bind_some]
  have hT0 : Tok x y ((List.replicate (x.length + 1) ([] : List Int)).set x.length (List.replicate (y.length + 1) 0)) x.length := by
    refine ⟨by simp, fun i h1 h2 => ?_⟩
    obtain rfl : i = x.length := by omega
    rw [List.getElem?_set_self (by simp), zeros_row (Nat.le_refl _)]
  generalize (List.replicate (x.length + 1) ([] : List Int)).set x.length (List.replicate (y.length + 1) 0) = t0 at hT0
  obtain ⟨o, ho, tb, q, rfl, hT⟩ := whileB_spec (R := List (List Int)) (body := fun s37 : List (List Int) × Int => if (decide ((0 : Int) ≤ s37.2)) = true then Option.bind (Option.bind (makeL 35184372088832 (w64 ((y.length : Int) + 1)) (0 : Int)) fun x61 => Option.bind (idx s37.1 s37.2) fun x67 => Option.bind (setI s37.1 s37.2 x61) fun x72 => Option.bind (whileB (R := Empty) (fun s87 => if (decide ((0 : Int) ≤ s87.2)) = true then Option.bind (Option.bind (idx x s37.2) fun x111 => Option.bind (idx y s87.2) fun x115 => Option.bind (if (strEq x111 x115) = true then Option.bind (idx s87.1 s37.2) fun x135 => Option.bind (idx s87.1 (w64 (s37.2 + 1))) fun x143 => Option.bind (idx x143 (w64 (s87.2 + 1))) fun x151 => Option.bind (idx x135 s87.2) fun x155 => Option.bind (setI x135 s87.2 (w64 (x151 + 1))) fun x163 => Option.bind (setI s87.1 s37.2 x163) fun x167 => some x167 else Option.bind (idx s87.1 s37.2) fun x171 => Option.bind (idx s87.1 (w64 (s37.2 + 1))) fun x179 => Option.bind (idx x179 s87.2) fun x187 => Option.bind (idx x171 (w64 (s87.2 + 1))) fun x196 => Option.bind (idx x171 s87.2) fun x200 => Option.bind (setI x171 s87.2 (if x187 < x196 then x196 else x187)) fun x208 => Option.bind (setI s87.1 s37.2 x208) fun x212 => some x212) fun s123 => some s123) fun s102 => some (.nx (s102, w64 (s87.2 - 1))) else some (.bk (s87.1, s87.2))) (x72, w64 ((y.length : Int) - 1))) fun o76 => o76.andThen (fun y => y.elim) fun s77 => some s77.1) fun s52 => some (.nx (s52, w64 (s37.2 - 1))) else some (.bk (s37.1, s37.2)))
    (fun s => ∃ n : Nat, s.2 = (n : Int) - 1 ∧ n ≤ x.length ∧ Tok x y s.1 n) (fun s => (s.2 + 1).toNat) (fun o => ∃ tb q, o = .fin (tb, q) ∧ Tok x y tb 0) (s := (t0, w64 ((x.length : Int) - 1))) ⟨x.length, w64_id (by omega) (by omega), Nat.le_refl _, hT0⟩ (by
      rintro ⟨tbl, _⟩ ⟨n, rfl, hn, hT⟩
      simp only at hT ⊢
      cases n with
      | zero =>
        rw [if_neg (by simp)]
        exact ⟨_, rfl, _, _, rfl, hT⟩
      | succ m =>
        have hm0 : (((m + 1 : Nat) : Int)) - 1 = (m : Int) := by omega
        have hwm : w64 ((m : Int) + 1) = ((m + 1 : Nat) : Int) := by rw [w64_id (by omega) (by omega)]; rfl
        rw [hm0]
        simp only [hmk, Option.bind_some]
        have hml : m < tbl.length := by rw [hT.1]; omega
        rw [if_pos (by simp), idx_lt _ _ hml, Option.bind_some, setI_nat _ _ _ hml, Option.bind_some]
        obtain ⟨o2, ho2, tb2, q2, rfl, hR⟩ := whileB_spec (R := Empty) (body := fun s87 : List (List Int) × Int => if (decide ((0 : Int) ≤ s87.2)) = true then Option.bind (Option.bind (idx x (m : Int)) fun x111 => Option.bind (idx y s87.2) fun x115 => Option.bind (if (strEq x111 x115) = true then Option.bind (idx s87.1 (m : Int)) fun x135 => Option.bind (idx s87.1 (w64 ((m : Int) + 1))) fun x143 => Option.bind (idx x143 (w64 (s87.2 + 1))) fun x151 => Option.bind (idx x135 s87.2) fun x155 => Option.bind (setI x135 s87.2 (w64 (x151 + 1))) fun x163 => Option.bind (setI s87.1 (m : Int) x163) fun x167 => some x167 else Option.bind (idx s87.1 (m : Int)) fun x171 => Option.bind (idx s87.1 (w64 ((m : Int) + 1))) fun x179 => Option.bind (idx x179 s87.2) fun x187 => Option.bind (idx x171 (w64 (s87.2 + 1))) fun x196 => Option.bind (idx x171 s87.2) fun x200 => Option.bind (setI x171 s87.2 (if x187 < x196 then x196 else x187)) fun x208 => Option.bind (setI s87.1 (m : Int) x208) fun x212 => some x212) fun s123 => some s123) fun s102 => some (.nx (s102, w64 (s87.2 - 1))) else some (.bk (s87.1, s87.2)))
          (fun s => ∃ n : Nat, s.2 = (n : Int) - 1 ∧ n ≤ y.length ∧ Rok x y s.1 m n) (fun s => (s.2 + 1).toNat) (fun o => ∃ tb q, o = .fin (tb, q) ∧ Rok x y tb m 0) (s := (tbl.set m (List.replicate (y.length + 1) 0), w64 ((y.length : Int) - 1))) ⟨y.length, w64_id (by omega) (by omega), Nat.le_refl _, hT.set _, _, set_at hT.1 (by omega), by simp, fun c h1 h2 => by
            rw [TT_endB h1, List.getElem?_replicate, if_pos (by omega)]; rfl⟩ (by
          rintro ⟨tbl, _⟩ ⟨n, rfl, hn, hR⟩
          simp only at hR ⊢
          cases n with
          | zero =>
            rw [if_neg (by simp)]
            exact ⟨_, rfl, _, _, rfl, hR⟩
          | succ q =>
            have hq0 : (((q + 1 : Nat) : Int)) - 1 = (q : Int) := by omega
            have hwq : w64 ((q : Int) + 1) = ((q + 1 : Nat) : Int) := by rw [w64_id (by omega) (by omega)]; rfl
            have hwd : w64 ((q : Int) - 1) = (q : Int) - 1 := w64_id (by omega) (by omega)
            obtain ⟨hT, row, hrow, hlen, hr⟩ := hR
            rw [hq0]
            simp only [hwm, hwq, hwd]
            have hrn : idx tbl (((m + 1 : Nat)) : Int) = some (rowT x y (m + 1)) := by rw [idx_nat]; exact hT.2 _ (Nat.le_refl _) (by omega)
            have hri : idx tbl (m : Int) = some row := by rw [idx_nat]; exact hrow
            have hml : m < tbl.length := by rw [hT.1]; omega
            rw [if_pos (by simp), idx_lt x m (by omega), Option.bind_some, idx_lt y q (by omega), Option.bind_some, strEq_iff]
            simp only [hri, hrn, Option.bind_some]
            have hrq : idx row (q : Int) = some (row[q]'(by omega)) := idx_lt _ _ (by omega)
            by_cases he : x[m]'(by omega) = y[q]'(by omega)
            · rw [if_pos (by simpa using he), row_at (by omega)]
              have hsm := TT_small (y := y) hx (m + 1) (q + 1)
              have hw : w64 ((TT x y (m + 1) (q + 1) : Int) + 1) = (TT x y m q : Int) := by rw [TT_eq (by omega) (by omega) he, w64_id (by omega) (by omega)]; rfl
              simp only [Option.bind_some, hrq, hw]
              rw [setI_nat _ _ _ (by omega), Option.bind_some, setI_nat _ _ _ hml]
              exact ⟨_, rfl, ⟨q, rfl, by omega, Rok.set hT (by omega) hlen (by omega) hr rfl⟩, by simp only; omega⟩
            · have hr2 : idx row (((q + 1 : Nat)) : Int) = some (TT x y m (q + 1) : Int) := by rw [idx_nat]; exact hr _ (Nat.le_refl _) (by omega)
              rw [if_neg (by simpa using he), row_at (by omega)]
              simp only [Option.bind_some, hr2, hrq]
              rw [setI_nat _ _ _ (by omega), Option.bind_some, setI_nat _ _ _ hml]
              refine ⟨_, rfl, ⟨q, rfl, by omega, Rok.set hT (by omega) hlen (by omega) hr ?_⟩, by simp only; omega⟩
              rw [TT_ne (by omega) (by omega) he]
              split <;> omega)
        rw [ho2]
        simp only [Option.bind_some, Lp.andThen_fin]
        have hwd : w64 ((m : Int) - 1) = (m : Int) - 1 := w64_id (by omega) (by omega)
        rw [hwd]
        exact ⟨_, rfl, ⟨m, rfl, by omega, hR.done⟩, by simp only; omega⟩)
  rw [hmk] at ho
  rw [ho]
  simp only [Option.bind_some, Lp.andThen_fin]
  rw [hT.all]
/-- the document's rows -/
theorem ref_rows (x y : List ByteArray) (hx : x.length ≤ 2000) (hy : y.length ≤ 2000) {R : Type} : ∃ t, rangeB (R := R) (fun k62 s70 => Option.bind (makeL 35184372088832 (w64 ((y.length : Int) + 1)) (0 : Int)) fun x85 => Option.bind (idx s70 (k62 : Int)) fun x91 => Option.bind (setI s70 (k62 : Int) x85) fun x96 => some (.nx x96)) (List.replicate (x.length + 1) ([] : List Int)).length 0 (List.replicate (x.length + 1) ([] : List Int)) = some (.fin t) ∧ t.length = x.length + 1 ∧ ∀ i, i < x.length + 1 → t[i]? = some (List.replicate (y.length + 1) (0 : Int)) := by
  have hwy : w64 ((y.length : Int) + 1) = ((y.length + 1 : Nat) : Int) := by rw [w64_id (by omega) (by omega)]; rfl
  have hmk : makeL 35184372088832 (w64 ((y.length : Int) + 1)) (0 : Int) = some (List.replicate (y.length + 1) 0) := by rw [hwy, makeL, if_pos ⟨by omega, by omega⟩, Int.toNat_natCast]
  simp only [hmk, Option.bind_some]
  obtain ⟨t, h1, h2, h3⟩ := rangeB_inv (R := R) (b := fun k62 s70 => Option.bind (idx s70 (k62 : Int)) fun x91 => Option.bind (setI s70 (k62 : Int) (List.replicate (y.length + 1) (0 : Int))) fun x96 => some (.nx x96)) (List.replicate (x.length + 1) ([] : List Int)).length (fun k s => s.length = x.length + 1 ∧ ∀ i, i < k → s[i]? = some (List.replicate (y.length + 1) (0 : Int))) (s := List.replicate (x.length + 1) ([] : List Int)) ⟨by simp, fun i hi => by omega⟩ (by
    rintro k s hk ⟨q1, q2⟩
    rw [List.length_replicate] at hk
    rw [idx_lt _ _ (show k < s.length by omega), Option.bind_some, setI_nat _ _ _ (show k < s.length by omega)]
    refine ⟨_, rfl, by rw [List.length_set]; exact q1, fun i hi => ?_⟩
    by_cases e : i = k
    · subst e
      rw [List.getElem?_set_self (by omega)]
    · rw [List.getElem?_set_ne (by omega)]
      exact q2 i (by omega))
  rw [List.length_replicate] at h3
  exact ⟨t, h1, h2, h3⟩
/-- the document's table -/
theorem ref_table (x y : List ByteArray) (hx : x.length ≤ 2000) (hy : y.length ≤ 2000) {R : Type} (t : List (List Int)) (h2 : t.length = x.length + 1) (h3 : ∀ i, i < x.length + 1 → t[i]? = some (List.replicate (y.length + 1) (0 : Int))) : ∃ q, whileB (R := R) (fun s114 : List (List Int) × Int => if (decide ((0 : Int) ≤ s114.2)) = true then Option.bind (Option.bind (whileB (R := Empty) (fun s149 => if (decide ((0 : Int) ≤ s149.2)) = true then Option.bind (Option.bind (idx s149.1 s114.2) fun x175 => Option.bind (idx s149.1 (w64 (s114.2 + 1))) fun x183 => Option.bind (idx x183 s149.2) fun x191 => Option.bind (idx x175 (w64 (s149.2 + 1))) fun x200 => Option.bind (idx x175 s149.2) fun x204 => Option.bind (setI x175 s149.2 (if x191 < x200 then x200 else x191)) fun x212 => Option.bind (setI s149.1 s114.2 x212) fun x216 => Option.bind (idx x s114.2) fun x217 => Option.bind (idx y s149.2) fun x221 => Option.bind (if (strEq x217 x221) = true then Option.bind (idx x216 s114.2) fun x241 => Option.bind (idx x241 s149.2) fun x254 => Option.bind (idx x216 (w64 (s114.2 + 1))) fun x258 => Option.bind (idx x258 (w64 (s149.2 + 1))) fun x266 => Option.bind (setI x241 s149.2 (if x254 < w64 (1 + x266) then w64 (1 + x266) else x254)) fun x277 => Option.bind (setI x216 s114.2 x277) fun x281 => some x281 else some x216) fun s229 => some s229) fun s164 => some (.nx (s164, w64 (s149.2 - 1))) else some (.bk (s149.1, s149.2))) (s114.1, w64 ((y.length : Int) - 1))) fun o138 => o138.andThen (fun y => y.elim) fun s139 => some s139.1) fun s129 => some (.nx (s129, w64 (s114.2 - 1))) else some (.bk (s114.1, s114.2))) (t, w64 ((x.length : Int) - 1)) = some (.fin (tabT x y, q)) := by
  obtain ⟨o, ho, tb, q, rfl, hT⟩ := whileB_spec (R := R) (body := fun s114 : List (List Int) × Int => if (decide ((0 : Int) ≤ s114.2)) = true then Option.bind (Option.bind (whileB (R := Empty) (fun s149 => if (decide ((0 : Int) ≤ s149.2)) = true then Option.bind (Option.bind (idx s149.1 s114.2) fun x175 => Option.bind (idx s149.1 (w64 (s114.2 + 1))) fun x183 => Option.bind (idx x183 s149.2) fun x191 => Option.bind (idx x175 (w64 (s149.2 + 1))) fun x200 => Option.bind (idx x175 s149.2) fun x204 => Option.bind (setI x175 s149.2 (if x191 < x200 then x200 else x191)) fun x212 => Option.bind (setI s149.1 s114.2 x212) fun x216 => Option.bind (idx x s114.2) fun x217 => Option.bind (idx y s149.2) fun x221 => Option.bind (if (strEq x217 x221) = true then Option.bind (idx x216 s114.2) fun x241 => Option.bind (idx x241 s149.2) fun x254 => Option.bind (idx x216 (w64 (s114.2 + 1))) fun x258 => Option.bind (idx x258 (w64 (s149.2 + 1))) fun x266 => Option.bind (setI x241 s149.2 (if x254 < w64 (1 + x266) then w64 (1 + x266) else x254)) fun x277 => Option.bind (setI x216 s114.2 x277) fun x281 => some x281 else some x216) fun s229 => some s229) fun s164 => some (.nx (s164, w64 (s149.2 - 1))) else some (.bk (s149.1, s149.2))) (s114.1, w64 ((y.length : Int) - 1))) fun o138 => o138.andThen (fun y => y.elim) fun s139 => some s139.1) fun s129 => some (.nx (s129, w64 (s114.2 - 1))) else some (.bk (s114.1, s114.2)))
    (fun s => ∃ n : Nat, s.2 = (n : Int) - 1 ∧ n ≤ x.length ∧ Tok x y s.1 n ∧ ∀ i, i < n → s.1[i]? = some (List.replicate (y.length + 1) (0 : Int))) (fun s => (s.2 + 1).toNat) (fun o => ∃ tb q, o = .fin (tb, q) ∧ Tok x y tb 0) (s := (t, w64 ((x.length : Int) - 1))) ⟨x.length, w64_id (by omega) (by omega), Nat.le_refl _, ⟨h2, fun i q1 q2 => by
      obtain rfl : i = x.length := by omega
      show t[x.length]? = _
      rw [h3 _ (by omega), zeros_row (Nat.le_refl _)]⟩, fun i hi => h3 i (by omega)⟩ (by
      rintro ⟨tbl, _⟩ ⟨n, rfl, hn, hT, hZ⟩
      simp only at hT hZ ⊢
      cases n with
      | zero =>
        rw [if_neg (by simp)]
        exact ⟨_, rfl, _, _, rfl, hT⟩
      | succ m =>
        have hm0 : (((m + 1 : Nat) : Int)) - 1 = (m : Int) := by omega
        have hwm : w64 ((m : Int) + 1) = ((m + 1 : Nat) : Int) := by rw [w64_id (by omega) (by omega)]; rfl
        rw [hm0]
        rw [if_pos (by simp)]
        obtain ⟨o2, ho2, tb2, q2, rfl, hR, hZ2⟩ := whileB_spec (R := Empty) (body := fun s149 : List (List Int) × Int => if (decide ((0 : Int) ≤ s149.2)) = true then Option.bind (Option.bind (idx s149.1 (m : Int)) fun x175 => Option.bind (idx s149.1 (w64 ((m : Int) + 1))) fun x183 => Option.bind (idx x183 s149.2) fun x191 => Option.bind (idx x175 (w64 (s149.2 + 1))) fun x200 => Option.bind (idx x175 s149.2) fun x204 => Option.bind (setI x175 s149.2 (if x191 < x200 then x200 else x191)) fun x212 => Option.bind (setI s149.1 (m : Int) x212) fun x216 => Option.bind (idx x (m : Int)) fun x217 => Option.bind (idx y s149.2) fun x221 => Option.bind (if (strEq x217 x221) = true then Option.bind (idx x216 (m : Int)) fun x241 => Option.bind (idx x241 s149.2) fun x254 => Option.bind (idx x216 (w64 ((m : Int) + 1))) fun x258 => Option.bind (idx x258 (w64 (s149.2 + 1))) fun x266 => Option.bind (setI x241 s149.2 (if x254 < w64 (1 + x266) then w64 (1 + x266) else x254)) fun x277 => Option.bind (setI x216 (m : Int) x277) fun x281 => some x281 else some x216) fun s229 => some s229) fun s164 => some (.nx (s164, w64 (s149.2 - 1))) else some (.bk (s149.1, s149.2)))
          (fun s => ∃ n : Nat, s.2 = (n : Int) - 1 ∧ n ≤ y.length ∧ Rok x y s.1 m n ∧ ∀ i, i < m → s.1[i]? = some (List.replicate (y.length + 1) (0 : Int))) (fun s => (s.2 + 1).toNat) (fun o => ∃ tb q, o = .fin (tb, q) ∧ Rok x y tb m 0 ∧ ∀ i, i < m → tb[i]? = some (List.replicate (y.length + 1) (0 : Int))) (s := (tbl, w64 ((y.length : Int) - 1))) ⟨y.length, w64_id (by omega) (by omega), Nat.le_refl _, ⟨hT, _, hZ m (by omega), by simp, fun c h1 h2 => by
            rw [TT_endB h1, List.getElem?_replicate, if_pos (by omega)]; rfl⟩, fun i hi => hZ i (by omega)⟩ (by
          rintro ⟨tbl, _⟩ ⟨n, rfl, hn, hR, hZ⟩
          simp only at hR hZ ⊢
          cases n with
          | zero =>
            rw [if_neg (by simp)]
            exact ⟨_, rfl, _, _, rfl, hR, hZ⟩
          | succ q =>
            have hq0 : (((q + 1 : Nat) : Int)) - 1 = (q : Int) := by omega
            have hwq : w64 ((q : Int) + 1) = ((q + 1 : Nat) : Int) := by rw [w64_id (by omega) (by omega)]; rfl
            have hwd : w64 ((q : Int) - 1) = (q : Int) - 1 := w64_id (by omega) (by omega)
            obtain ⟨hT, row, hrow, hlen, hr⟩ := hR
            rw [hq0]
            simp only [hwm, hwq, hwd]
            have hrn : idx tbl (((m + 1 : Nat)) : Int) = some (rowT x y (m + 1)) := by rw [idx_nat]; exact hT.2 _ (Nat.le_refl _) (by omega)
            have hri : idx tbl (m : Int) = some row := by rw [idx_nat]; exact hrow
            have hml : m < tbl.length := by rw [hT.1]; omega
            have hrq : idx row (q : Int) = some (row[q]'(by omega)) := idx_lt _ _ (by omega)
            have hr2 : idx row (((q + 1 : Nat)) : Int) = some (TT x y m (q + 1) : Int) := by rw [idx_nat]; exact hr _ (Nat.le_refl _) (by omega)
            rw [if_pos (by simp)]
            simp only [hri, hrn, Option.bind_some]
            rw [row_at (by omega)]
            simp only [Option.bind_some, hr2, hrq]
            rw [setI_nat _ _ _ (by omega), Option.bind_some, setI_nat _ _ _ hml, Option.bind_some, idx_lt x m (by omega), Option.bind_some, idx_lt y q (by omega), Option.bind_some, strEq_iff]
            have hmx := TT_max (x := x) (y := y) (i := m) (j := q) (by omega) (by omega)
            by_cases he : x[m]'(by omega) = y[q]'(by omega)
            · rw [if_pos (by simpa using he)]
              rw [if_pos he] at hmx
              generalize hv : (if (TT x y (m + 1) q : Int) < (TT x y m (q + 1) : Int) then (TT x y m (q + 1) : Int) else (TT x y (m + 1) q : Int)) = v
              have hv2 : v = (max (TT x y (m + 1) q) (TT x y m (q + 1)) : Nat) := by rw [← hv]; split <;> omega
              have hT2 := hT.set (row.set q v)
              have g1 : idx (tbl.set m (row.set q v)) (m : Int) = some (row.set q v) := by rw [idx_nat]; exact set_at hT.1 (by omega)
              have g2 : idx (tbl.set m (row.set q v)) (((m + 1 : Nat)) : Int) = some (rowT x y (m + 1)) := by rw [idx_nat]; exact hT2.2 _ (Nat.le_refl _) (by omega)
              have g3 : idx (row.set q v) (q : Int) = some v := by rw [idx_nat]; exact List.getElem?_set_self (by omega)
              have hsm := TT_small (y := y) hx (m + 1) (q + 1)
              have hw : w64 (1 + (TT x y (m + 1) (q + 1) : Int)) = 1 + (TT x y (m + 1) (q + 1) : Int) := w64_id (by omega) (by omega)
              simp only [g1, g2, g3, Option.bind_some]
              rw [row_at (by omega)]
              simp only [Option.bind_some, hw]
              rw [setI_nat _ _ _ (by rw [List.length_set]; omega), Option.bind_some, setI_nat _ _ _ (by rw [List.length_set]; omega)]
              refine ⟨_, rfl, ⟨q, rfl, by omega, Rok.set hT2 (by omega) (by rw [List.length_set]; exact hlen) (by omega) (fun c q1 q2 => ?_) ?_, fun i hi => ?_⟩, by simp only; omega⟩
              · rw [List.getElem?_set_ne (by omega)]
                exact hr c q1 q2
              · rw [hmx, hv2]
                split <;> omega
              · show ((tbl.set m _).set m _)[i]? = _
                rw [List.getElem?_set_ne (by omega), List.getElem?_set_ne (by omega)]
                exact hZ i hi
            · rw [if_neg (by simpa using he)]
              rw [if_neg he] at hmx
              refine ⟨_, rfl, ⟨q, rfl, by omega, Rok.set hT (by omega) hlen (by omega) hr ?_, fun i hi => ?_⟩, by simp only; omega⟩
              · rw [hmx]
                split <;> omega
              · show (tbl.set m _)[i]? = _
                rw [List.getElem?_set_ne (by omega)]
                exact hZ i hi)
        rw [ho2]
        simp only [Option.bind_some, Lp.andThen_fin]
        have hwd : w64 ((m : Int) - 1) = (m : Int) - 1 := w64_id (by omega) (by omega)
        rw [hwd]
        exact ⟨_, rfl, ⟨m, rfl, by omega, hR.done, hZ2⟩, by simp only; omega⟩)
  rw [ho]
  exact ⟨q, by rw [hT.all]⟩
end Go.Proofs.YtdedbofpidgjhaaDoor.M
