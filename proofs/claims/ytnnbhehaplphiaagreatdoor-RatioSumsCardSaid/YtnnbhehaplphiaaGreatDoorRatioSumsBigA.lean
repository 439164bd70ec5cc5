/-
  Numbers in digits of base 10^9 (staff.nat): what the operations compute.
-/
import Derived.Test.YtnnbhehaplphiaaGreatDoorRatioSumsM
import Derived.Test.YtnnbhehaplphiaaGreatDoorPl
namespace Go.Proofs.YtnnbhehaplphiaaGreatDoor.M
open Go Go.Pu
set_option linter.unusedSimpArgs false
set_option linter.unusedVariables false

/-- the number -/
def nv : List Int → Int
  | [] => 0
  | x :: l => x + 1000000000 * nv l
def Dig (l : List Int) : Prop := ∀ x ∈ l, 0 ≤ x ∧ x < 1000000000
/-- no 0 at the end -/
def Trm (l : List Int) : Prop := l.getLast? ≠ some 0
def bp : Nat → Int
  | 0 => 1
  | k + 1 => 1000000000 * bp k

theorem bp_pos : ∀ k, 0 < bp k
  | 0 => by decide
  | k + 1 => by have := bp_pos k; simp only [bp]; omega
theorem nv_append (l m : List Int) : nv (l ++ m) = nv l + bp l.length * nv m := by
  induction l with
  | nil => simp [nv, bp]
  | cons x l ih =>
    simp only [List.cons_append, nv, ih, List.length_cons, bp]
    rw [Int.mul_add, ← Int.mul_assoc, Int.add_assoc]
theorem nv_zeros (n : Nat) : nv (List.replicate n 0) = 0 := by
  induction n with
  | zero => rfl
  | succ n ih => rw [List.replicate_succ, nv, ih]; rfl
theorem nv_nonneg : ∀ {l : List Int}, Dig l → 0 ≤ nv l
  | [], _ => Int.le_refl _
  | x :: l, h => by
    have h1 := nv_nonneg (l := l) fun y hy => h y (List.mem_cons_of_mem _ hy)
    have h2 := h x (List.mem_cons_self ..)
    simp only [nv]
    omega
theorem nv_lt : ∀ {l : List Int}, Dig l → nv l < bp l.length
  | [], _ => by decide
  | x :: l, h => by
    have h1 := nv_lt (l := l) fun y hy => h y (List.mem_cons_of_mem _ hy)
    have h2 := h x (List.mem_cons_self ..)
    simp only [nv, List.length_cons, bp]
    omega
theorem Dig.append {l m : List Int} (h : Dig l) (h' : Dig m) : Dig (l ++ m) := fun x hx => (List.mem_append.1 hx).elim (h x) (h' x)
theorem Dig.zeros (n : Nat) : Dig (List.replicate n 0) := fun x hx => by have := List.eq_of_mem_replicate hx; omega
theorem Dig.set {l : List Int} (h : Dig l) (k : Nat) {x : Int} (hx : 0 ≤ x ∧ x < 1000000000) : Dig (l.set k x) := fun y hy => by
  rcases List.mem_or_eq_of_mem_set hy with h1 | rfl
  · exact h y h1
  · exact hx
theorem Dig.at {l : List Int} (h : Dig l) {k : Nat} {x : Int} (hk : l[k]? = some x) : 0 ≤ x ∧ x < 1000000000 := h x (List.mem_of_getElem? hk)

/-- one digit set -/
theorem nv_set : ∀ (l : List Int) (k : Nat) (x y : Int), l[k]? = some y → nv (l.set k x) = nv l + bp k * (x - y)
  | [], _, _, _, h => by simp at h
  | z :: l, 0, x, y, h => by
    simp at h
    subst h
    simp only [List.set_cons_zero, nv, bp]
    omega
  | z :: l, k + 1, x, y, h => by
    simp at h
    simp only [List.set_cons_succ, nv, bp, nv_set l k x y h, Int.mul_add, ← Int.mul_assoc]
    omega

theorem setI_at' {l : List Int} {k : Nat} (x : Int) (h : k < l.length) : setI l (k : Int) x = some (l.set k x) := by
  unfold setI
  rw [if_pos (by omega), Int.toNat_natCast]

theorem take_last {l : List Int} {x : Int} (h : l[l.length - 1]? = some x) : l.take (l.length - 1) ++ [x] = l := by
  have hlt := (List.getElem?_eq_some_iff.1 h).1
  obtain ⟨_, h2⟩ := List.getElem?_eq_some_iff.1 h
  have : l = l.take (l.length - 1) ++ l.drop (l.length - 1) := (List.take_append_drop _ _).symm
  have h3 : l.drop (l.length - 1) = [x] := by
    rw [List.drop_eq_getElem_cons hlt, h2, List.drop_eq_nil_of_le (by omega)]
  rw [h3] at this
  exact this.symm

/-- trimmed leaves zeros out -/
theorem trimmed_spec (l : List Int) (hd : Dig l) (hlen : l.length ≤ 1000000) : ∃ r, staff_nat_trimmed l = some r ∧ nv r = nv l ∧ Dig r ∧ Trm r ∧ r.length ≤ l.length := by
  unfold staff_nat_trimmed
  obtain ⟨r, hr, t, rfl, h1, h2, h3, h4⟩ := whileB_spec (R := List Int) (body := fun s12 => Option.bind (if (decide ((0 : Int) < (s12.length : Int))) = true then (Option.bind (idx s12 (w64 ((s12.length : Int) - 1))) fun x25 => some (x25 == 0)) else (some false)) fun s24 => if s24 = true then Option.bind (sliceL s12 none (some (w64 ((s12.length : Int) - 1)))) fun x30 => some (.nx x30) else some (.bk s12))
    (fun s => nv s = nv l ∧ Dig s ∧ s.length ≤ l.length) (fun s => s.length) (fun r => ∃ t, r = .fin t ∧ nv t = nv l ∧ Dig t ∧ Trm t ∧ t.length ≤ l.length) (s := l) ⟨rfl, hd, Nat.le_refl _⟩
    (by
      rintro s ⟨h1, h2, h3⟩
      by_cases h0 : 0 < s.length
      · have e1 : decide ((0 : Int) < (s.length : Int)) = true := by simp; omega
        have hw : w64 ((s.length : Int) - 1) = ((s.length - 1 : Nat) : Int) := by rw [w64_id (by omega) (by omega)]; omega
        have hk : s[s.length - 1]? = some s[s.length - 1] := List.getElem?_eq_getElem (by omega)
        have htl := take_last hk
        simp only [e1, if_true, hw, idx_nat, hk, Option.bind_some]
        generalize s[s.length - 1] = x at hk htl
        by_cases hx : x = 0
        · subst hx
          have hs : sliceL s none (some ((s.length - 1 : Nat) : Int)) = some (s.take (s.length - 1)) := by
            unfold sliceL bounds
            simp
          simp only [beq_self_eq_true, if_true, hs, Option.bind_some]
          refine ⟨_, rfl, ⟨?_, fun y hy => h2 y (List.mem_of_mem_take hy), by rw [List.length_take]; omega⟩, by rw [List.length_take]; omega⟩
          have := nv_append (s.take (s.length - 1)) [0]
          rw [htl] at this
          rw [← h1, this]
          simp [nv]
        · have e2 : (x == 0) = false := by simpa using hx
          simp only [e2, Bool.false_eq_true, if_false]
          refine ⟨_, rfl, _, rfl, h1, h2, ?_, h3⟩
          intro h
          rw [List.getLast?_eq_getElem?, hk] at h
          exact hx (Option.some.inj h)
      · have e1 : decide ((0 : Int) < (s.length : Int)) = false := by rw [decide_eq_false_iff_not]; omega
        simp only [e1, Bool.false_eq_true, if_false, Option.bind_some]
        refine ⟨_, rfl, _, rfl, h1, h2, ?_, h3⟩
        have hz : s.length = 0 := by omega
        obtain rfl : s = [] := List.length_eq_zero_iff.1 hz
        intro h
        simp at h)
  exact ⟨t, by rw [hr]; rfl, h1, h2, h3, h4⟩

theorem div_parts (m : Int) (h : 0 ≤ m) : 0 ≤ Int.tmod m 1000000000 ∧ Int.tmod m 1000000000 < 1000000000 ∧ 0 ≤ Int.tdiv m 1000000000 ∧ 1000000000 * Int.tdiv m 1000000000 + Int.tmod m 1000000000 = m := by
  obtain ⟨h1, h2, _⟩ := tdiv_spec m 1000000000 (by decide)
  obtain ⟨h3, h4, h5, _⟩ := h2 h
  exact ⟨h4, h5, h3, h1⟩

/-- small multiplies by a number below base -/
theorem small_spec (a : List Int) (n : Int) (hd : Dig a) (hn : 0 ≤ n ∧ n < 1000000000) (hlen : a.length ≤ 100000) : ∃ r, staff_nat_small a n = some r ∧ nv r = n * nv a ∧ Dig r ∧ Trm r ∧ r.length ≤ a.length + 1 := by
  unfold staff_nat_small
  have hw : w64 ((a.length : Int) + 1) = ((a.length + 1 : Nat) : Int) := by rw [w64_id (by omega) (by omega)]; omega
  have hmk : makeL 35184372088832 (w64 ((a.length : Int) + 1)) (0 : Int) = some (List.replicate (a.length + 1) 0) := by
    rw [hw]
    unfold makeL
    rw [if_pos (by omega), Int.toNat_natCast]
  rw [hmk]
  simp only [Option.bind_some]
  obtain ⟨t, ht, h1, h2, h3, h4, h5⟩ := rangeB_inv (R := List Int) (b := fun k12 s20 => Option.bind (idx a (k12 : Int)) fun x35 => Option.bind (idx s20.1 (k12 : Int)) fun x39 => Option.bind (setI s20.1 (k12 : Int) (Int.tmod (w64 ((w64 (x35 * n)) + s20.2)) 1000000000)) fun x44 => some (.nx (x44, w64 (Int.tdiv (w64 ((w64 (x35 * n)) + s20.2)) 1000000000))))
    a.length (fun k s => s.1.length = a.length + 1 ∧ Dig s.1 ∧ (0 ≤ s.2 ∧ s.2 < 1000000000) ∧ nv s.1 + bp k * s.2 = n * nv (a.take k) ∧ ∀ j, k ≤ j → j < a.length + 1 → s.1[j]? = some 0)
    (s := (List.replicate (a.length + 1) 0, 0)) ⟨by simp, Dig.zeros _, ⟨Int.le_refl _, by show (0 : Int) < 1000000000; decide⟩, by simp [nv_zeros, nv], fun j _ hj => by simp [hj]⟩
    (by
      rintro k ⟨s, c⟩ hk ⟨h1, h2, h3, h4, h5⟩
      dsimp only at h1 h2 h3 h4 h5
      have ha : a[k]? = some a[k] := List.getElem?_eq_getElem hk
      have hs := h5 k (Nat.le_refl _) (by omega)
      have hx := hd.at ha
      have htk : a.take (k + 1) = a.take k ++ [a[k]] := by rw [List.take_add_one, ha]; rfl
      rw [htk]
      simp only [idx_nat, ha, hs, Option.bind_some]
      generalize a[k] = x at ha hx
      have hxn : 0 ≤ x * n ∧ x * n ≤ 999999999 * 999999999 := ⟨Int.mul_nonneg hx.1 hn.1, Int.mul_le_mul (by omega) (by omega) hn.1 (by decide)⟩
      have w1 : w64 (x * n) = x * n := w64_id (by omega) (by omega)
      have w2 : w64 (x * n + c) = x * n + c := w64_id (by omega) (by omega)
      obtain ⟨q1, q2, q3, q4⟩ := div_parts (x * n + c) (by omega)
      have w3 : w64 (Int.tdiv (x * n + c) 1000000000) = Int.tdiv (x * n + c) 1000000000 := w64_id (by omega) (by omega)
      rw [w1, w2, w3, setI_at' _ (by omega)]
      refine ⟨_, rfl, by simpa using h1, h2.set k ⟨q1, q2⟩, ⟨q3, by show Int.tdiv (x * n + c) 1000000000 < 1000000000; omega⟩, ?_, fun j hj hj2 => ?_⟩
      · show nv (s.set k (Int.tmod (x * n + c) 1000000000)) + bp (k + 1) * Int.tdiv (x * n + c) 1000000000 = n * nv (a.take k ++ [x])
        rw [nv_set s k _ 0 hs, nv_append, Int.mul_add, ← h4]
        have e1 : (a.take k).length = k := by rw [List.length_take]; omega
        rw [e1]
        simp only [nv, bp]
        have e2 : n * (bp k * (x + 1000000000 * 0)) = bp k * (x * n) := by
          rw [Int.mul_zero, Int.add_zero, Int.mul_left_comm, Int.mul_comm n x]
        rw [e2]
        have e3 : bp k * (x * n + c) = bp k * (1000000000 * Int.tdiv (x * n + c) 1000000000 + Int.tmod (x * n + c) 1000000000) := by rw [q4]
        rw [Int.mul_add, Int.mul_add] at e3
        have e4 : 1000000000 * bp k * Int.tdiv (x * n + c) 1000000000 = bp k * (1000000000 * Int.tdiv (x * n + c) 1000000000) := by rw [Int.mul_comm 1000000000 (bp k), Int.mul_assoc]
        rw [e4, Int.sub_zero]
        omega
      · show (s.set k _)[j]? = some 0
        rw [List.getElem?_set_ne (by omega)]
        exact h5 j (by omega) hj2)
  obtain ⟨s, c⟩ := t
  dsimp only at h1 h2 h3 h4 h5
  rw [ht]
  simp only [Option.bind_some, Lp.andThen_fin]
  have hs := h5 a.length (Nat.le_refl _) (by omega)
  rw [idx_nat, hs, setI_at' _ (by omega)]
  simp only [Option.bind_some]
  obtain ⟨r, r1, r2, r3, r4, r5⟩ := trimmed_spec (s.set a.length c) (h2.set _ h3) (by simp; omega)
  rw [r1]
  refine ⟨r, rfl, ?_, r3, r4, by simpa [h1] using r5⟩
  rw [r2, nv_set s _ _ 0 hs, Int.sub_zero, h4, List.take_length]
end Go.Proofs.YtnnbhehaplphiaaGreatDoor.M
/-
  Numbers in digits of base 10^9 (staff.nat): small numbers, sums, products, comparison.
-/
namespace Go.Proofs.YtnnbhehaplphiaaGreatDoor.M
open Go Go.Pu
set_option linter.unusedSimpArgs false
set_option linter.unusedVariables false

theorem natOf_val (n : Int) (h : 0 ≤ n ∧ n < 1000000000) : staff_natOf n = some (if n = 0 then [] else [n]) := by
  unfold staff_natOf
  by_cases h0 : n = 0
  · subst h0
    have : whileB (R := List Int) (fun (s12 : Int × List Int) => if (decide ((0 : Int) < s12.1)) = true then Option.bind (appendL 17592186044416 s12.2 ([Int.tmod s12.1 1000000000] : List Int)) fun x31 => some (.nx (w64 (Int.tdiv s12.1 1000000000), x31)) else some (.bk (s12.1, s12.2))) (0, ([] : (List Int))) = some (.fin (0, [])) := whileB_iff.2 ⟨1, rfl⟩
    rw [this]
    rfl
  · have e1 : Int.tmod n 1000000000 = n := Int.tmod_eq_of_lt h.1 h.2
    have e2 : Int.tdiv n 1000000000 = 0 := Int.tdiv_eq_zero_of_lt h.1 h.2
    have e3 : decide ((0 : Int) < n) = true := by simp; omega
    have : whileB (R := List Int) (fun (s12 : Int × List Int) => if (decide ((0 : Int) < s12.1)) = true then Option.bind (appendL 17592186044416 s12.2 ([Int.tmod s12.1 1000000000] : List Int)) fun x31 => some (.nx (w64 (Int.tdiv s12.1 1000000000), x31)) else some (.bk (s12.1, s12.2))) (n, ([] : (List Int))) = some (.fin (0, [n])) := by
      refine whileB_iff.2 ⟨2, ?_⟩
      have hw : w64 0 = 0 := by decide
      have ha : appendL 17592186044416 ([] : List Int) [n] = some [n] := by simp [appendL]
      rw [whileN]
      simp only [e1, e2, e3, if_true, hw, ha, Option.bind_some]
      rfl
    rw [this, if_neg h0]
    rfl
theorem natOf_spec (n : Int) (h : 0 ≤ n ∧ n < 1000000000) : ∃ r, staff_natOf n = some r ∧ nv r = n ∧ Dig r ∧ Trm r ∧ r.length ≤ 1 := by
  refine ⟨_, natOf_val n h, ?_⟩
  by_cases h0 : n = 0
  · subst h0
    exact ⟨rfl, fun x hx => by simp at hx, by simp [Trm], by simp⟩
  · rw [if_neg h0]
    exact ⟨by simp [nv], fun x hx => by simp at hx; omega, by simp [Trm]; omega, by simp⟩

theorem bp_add (i j : Nat) : bp (i + j) = bp i * bp j := by
  induction i with
  | zero => simp [bp]
  | succ i ih => rw [Nat.succ_add, bp, ih, bp, Int.mul_assoc]
theorem bp_mono {i j : Nat} (h : i ≤ j) : bp i ≤ bp j := by
  obtain ⟨k, rfl⟩ := Nat.exists_eq_add_of_le h
  rw [bp_add]
  have h1 := bp_pos i
  have h2 := bp_pos k
  have := Int.mul_le_mul_of_nonneg_left (show (1 : Int) ≤ bp k by omega) (Int.le_of_lt h1)
  omega
theorem Dig.take {l : List Int} (h : Dig l) (k : Nat) : Dig (l.take k) := fun x hx => h x (List.mem_of_mem_take hx)
theorem Dig.drop {l : List Int} (h : Dig l) (k : Nat) : Dig (l.drop k) := fun x hx => h x (List.mem_of_mem_drop hx)

/-- a number without a 0 at the end is not below the power of its last place -/
theorem nv_ge {l : List Int} (hd : Dig l) (ht : Trm l) (h0 : 0 < l.length) : bp (l.length - 1) ≤ nv l := by
  have hk : l[l.length - 1]? = some l[l.length - 1] := List.getElem?_eq_getElem (by omega)
  have htl := take_last hk
  have hx := hd.at hk
  have hne : l[l.length - 1] ≠ 0 := fun h => ht (by rw [List.getLast?_eq_getElem?, hk, h])
  generalize l[l.length - 1] = x at hk htl hx hne
  have h1 := nv_append (l.take (l.length - 1)) [x]
  rw [htl] at h1
  have h2 := nv_nonneg (hd.take (l.length - 1))
  have e : (l.take (l.length - 1)).length = l.length - 1 := by rw [List.length_take]; omega
  rw [e] at h1
  simp only [nv] at h1
  have h3 := Int.mul_le_mul_of_nonneg_left (show (1 : Int) ≤ x + 1000000000 * 0 by omega) (Int.le_of_lt (bp_pos (l.length - 1)))
  omega

theorem nv_split {l : List Int} {k : Nat} {x : Int} (h : l[k]? = some x) : nv l = nv (l.take k) + bp k * (x + 1000000000 * nv (l.drop (k + 1))) := by
  have hlt := (List.getElem?_eq_some_iff.1 h).1
  obtain ⟨_, h2⟩ := List.getElem?_eq_some_iff.1 h
  have h3 : l = l.take k ++ (x :: l.drop (k + 1)) := by
    rw [← h2, ← List.drop_eq_getElem_cons hlt, List.take_append_drop]
  conv => lhs; rw [h3]
  rw [nv_append, List.length_take, Nat.min_eq_left (Nat.le_of_lt hlt)]
  rfl

def sgn (a b : Int) : Int := if a < b then -1 else if a = b then 0 else 1

theorem compare_spec (a b : List Int) (ha : Dig a) (hb : Dig b) (ta : Trm a) (tb : Trm b) (la : a.length ≤ 1000000) (lb : b.length ≤ 1000000) : staff_nat_compare a b = some (sgn (nv a) (nv b)) := by
  unfold staff_nat_compare
  by_cases hl : a.length = b.length
  · have e1 : ((a.length : Int) != (b.length : Int)) = false := by simp [hl]
    simp only [e1, Bool.false_eq_true, if_false]
    have hw0 : w64 ((a.length : Int) - 1) = (a.length : Int) - 1 := w64_id (by omega) (by omega)
    rw [hw0]
    obtain ⟨r, hr, hq⟩ := whileB_spec (R := Int) (body := fun s16 => if (decide ((0 : Int) ≤ s16)) = true then Option.bind (idx a s16) fun x28 => Option.bind (idx b s16) fun x32 => if (x28 != x32) = true then if (decide (x28 < x32)) = true then some (.rt (-1)) else some (.rt 1) else some (.nx (w64 (s16 - 1))) else some (.bk s16))
      (fun s => ∃ k : Nat, s = (k : Int) - 1 ∧ k ≤ a.length ∧ a.drop k = b.drop k) (fun s => (s + 1).toNat)
      (fun r => (∃ t, r = .fin t ∧ a = b) ∨ r = .rt (sgn (nv a) (nv b))) (s := (a.length : Int) - 1)
      ⟨a.length, rfl, Nat.le_refl _, by rw [List.drop_length, hl, List.drop_length]⟩
      (by
        rintro _ ⟨k, rfl, hk, hd⟩
        cases k with
        | zero => exact ⟨.bk ((0 : Nat) - 1 : Int), rfl, .inl ⟨_, rfl, by simpa using hd⟩⟩
        | succ k =>
          have e2 : ((k + 1 : Nat) : Int) - 1 = (k : Int) := by omega
          have e3 : decide ((0 : Int) ≤ (k : Int)) = true := by simp
          have hw : w64 ((k : Int) - 1) = (k : Int) - 1 := w64_id (by omega) (by omega)
          have hka : a[k]? = some a[k] := List.getElem?_eq_getElem (by omega)
          have hkb : b[k]? = some b[k] := List.getElem?_eq_getElem (by omega)
          have da : a.drop k = a[k] :: a.drop (k + 1) := List.drop_eq_getElem_cons (by omega)
          have db : b.drop k = b[k] :: b.drop (k + 1) := List.drop_eq_getElem_cons (by omega)
          rw [e2]
          simp only [e3, if_true, idx_nat, hka, hkb, Option.bind_some, hw]
          generalize a[k] = x at hka da
          generalize b[k] = y at hkb db
          by_cases hxy : x = y
          · subst hxy
            simp only [bne_self_eq_false, Bool.false_eq_true, if_false]
            exact ⟨_, rfl, ⟨k, rfl, by omega, by rw [da, db, hd]⟩, by omega⟩
          · have e4 : (x != y) = true := by simpa using hxy
            simp only [e4, if_true]
            have sa := nv_split hka
            have sb := nv_split hkb
            rw [hd] at sa
            have n1 := nv_nonneg (ha.take k)
            have n2 := nv_lt (ha.take k)
            have n3 := nv_nonneg (hb.take k)
            have n4 := nv_lt (hb.take k)
            have e5 : (a.take k).length = k := by rw [List.length_take]; omega
            have e6 : (b.take k).length = k := by rw [List.length_take]; omega
            rw [e5] at n2
            rw [e6] at n4
            rw [Int.mul_add] at sa sb
            by_cases hlt : x < y
            · have h7 := Int.mul_le_mul_of_nonneg_left (show x + 1 ≤ y by omega) (Int.le_of_lt (bp_pos k))
              rw [Int.mul_add] at h7
              simp only [hlt, decide_true, if_true]
              refine ⟨_, rfl, .inr ?_⟩
              unfold sgn
              rw [if_pos (by omega)]
            · have h7 := Int.mul_le_mul_of_nonneg_left (show y + 1 ≤ x by omega) (Int.le_of_lt (bp_pos k))
              rw [Int.mul_add] at h7
              simp only [hlt, decide_false, Bool.false_eq_true, if_false]
              refine ⟨_, rfl, .inr ?_⟩
              unfold sgn
              rw [if_neg (by omega), if_neg (by omega)])
    rw [hr]
    rcases hq with ⟨t, rfl, rfl⟩ | rfl
    · simp [sgn, Lp.andThen]
    · rfl
  · have e1 : ((a.length : Int) != (b.length : Int)) = true := by simp; omega
    simp only [e1, if_true]
    have na := nv_lt ha
    have nb := nv_lt hb
    by_cases h : a.length < b.length
    · have e2 : decide ((a.length : Int) < (b.length : Int)) = true := by simp; omega
      have h2 := nv_ge hb tb (by omega)
      have h3 := bp_mono (show a.length ≤ b.length - 1 by omega)
      simp only [e2, if_true]
      unfold sgn
      rw [if_pos (by omega)]
    · have e2 : decide ((a.length : Int) < (b.length : Int)) = false := by simp; omega
      have h2 := nv_ge ha ta (by omega)
      have h3 := bp_mono (show b.length ≤ a.length - 1 by omega)
      simp only [e2, Bool.false_eq_true, if_false]
      unfold sgn
      rw [if_neg (by omega), if_neg (by omega)]

theorem take_succ_of {l : List Int} {k : Nat} {x : Int} (h : l[k]? = some x) : l.take (k + 1) = l.take k ++ [x] := by
  rw [List.take_add_one, h]; rfl
theorem nv_take_succ {l : List Int} {k : Nat} {x : Int} (h : l[k]? = some x) : nv (l.take (k + 1)) = nv (l.take k) + bp k * x := by
  have hlt := (List.getElem?_eq_some_iff.1 h).1
  rw [take_succ_of h, nv_append, List.length_take, Nat.min_eq_left (Nat.le_of_lt hlt)]
  simp [nv]

/-- one digit of a sum or a product: what stays, what is carried -/
theorem digit_step {out : List Int} {k j : Nat} {d m c v : Int} (hd : out[j]? = some d) (hm : 0 ≤ m) (hv : nv out + bp j * (m - d) = v) : nv (out.set j (Int.tmod m 1000000000)) + bp (j + 1) * Int.tdiv m 1000000000 = v := by
  obtain ⟨q1, q2, q3, q4⟩ := div_parts m hm
  rw [nv_set out j _ d hd]
  have e : bp (j + 1) * Int.tdiv m 1000000000 = bp j * (1000000000 * Int.tdiv m 1000000000) := by rw [bp, Int.mul_comm 1000000000 (bp j), Int.mul_assoc]
  rw [e]
  rw [← hv]
  have : bp j * (Int.tmod m 1000000000 - d) + bp j * (1000000000 * Int.tdiv m 1000000000) = bp j * (m - d) := by
    rw [← Int.mul_add]
    congr 1
    omega
  omega

def PlusI (a b : List Int) (s : List Int × Int × Int) : Prop := ∃ k : Nat, s.2.2 = (k : Int) ∧ k ≤ a.length ∧ s.1.length = a.length ∧ Dig s.1 ∧ (0 ≤ s.2.1 ∧ s.2.1 ≤ 1) ∧ nv s.1 + bp k * s.2.1 = nv a + nv (b.take k)
theorem trm_ge {l : List Int} (hd : Dig l) (h : l = [] ∨ bp (l.length - 1) ≤ nv l) : Trm l := by
  rcases h with rfl | h
  · simp [Trm]
  · intro hl
    rw [List.getLast?_eq_getElem?] at hl
    have h1 := (List.getElem?_eq_some_iff.1 hl).1
    have h2 := take_last hl
    have h3 := nv_append (l.take (l.length - 1)) [0]
    rw [h2] at h3
    have h4 := nv_lt (hd.take (l.length - 1))
    rw [List.length_take, Nat.min_eq_left (by omega)] at h4
    simp [nv] at h3
    omega
theorem plus_long (a b : List Int) (ha : Dig a) (hb : Dig b) (hl : b.length ≤ a.length) (la : a.length ≤ 100000) :
    ∃ r, (Option.bind (makeC 35184372088832 (a.length : Int) (w64 ((a.length : Int) + 1)) (0 : Int)) fun x18 =>
      Option.bind (whileB (R := List Int) (fun s38 => if ((decide (s38.2.2 < (s38.1.length : Int))) && ((decide (s38.2.2 < (b.length : Int))) || (decide ((0 : Int) < s38.2.1)))) = true then Option.bind (idx s38.1 s38.2.2) fun x56 => Option.bind (if (decide (s38.2.2 < (b.length : Int))) = true then Option.bind (idx b s38.2.2) fun x69 => some (w64 ((w64 (x56 + s38.2.1)) + x69)) else some (w64 (x56 + s38.2.1))) fun s62 => Option.bind (setI s38.1 s38.2.2 (Int.tmod s62 1000000000)) fun x79 => some (.nx (x79, w64 (Int.tdiv s62 1000000000), w64 (s38.2.2 + 1))) else some (.bk (s38.1, s38.2.1, s38.2.2))) ((copyL x18 a), 0, 0)) fun o27 => o27.andThen (fun y => some y) fun s28 =>
      Option.bind (if (decide ((0 : Int) < s28.2.1)) = true then Option.bind (appendL 17592186044416 s28.1 ([s28.2.1] : List Int)) fun x102 => some x102 else some s28.1) fun s87 =>
      some s87) = some r ∧ nv r = nv a + nv b ∧ Dig r ∧ r.length ≤ a.length + 1 ∧ (Trm a → Trm r) := by
  have hmk : makeC 35184372088832 (a.length : Int) (w64 ((a.length : Int) + 1)) (0 : Int) = some (List.replicate a.length 0) := by
    rw [w64_id (by omega) (by omega)]
    unfold makeC
    rw [if_pos (by omega), Int.toNat_natCast]
  have hcp : copyL (List.replicate a.length 0) a = a := by simp [copyL]
  rw [hmk]
  simp only [Option.bind_some, hcp]
  obtain ⟨r, hr, out, c, i, rfl, h1, h2, h3, h4, h5⟩ := whileB_spec (R := List Int) (body := fun s38 => if ((decide (s38.2.2 < (s38.1.length : Int))) && ((decide (s38.2.2 < (b.length : Int))) || (decide ((0 : Int) < s38.2.1)))) = true then Option.bind (idx s38.1 s38.2.2) fun x56 => Option.bind (if (decide (s38.2.2 < (b.length : Int))) = true then Option.bind (idx b s38.2.2) fun x69 => some (w64 ((w64 (x56 + s38.2.1)) + x69)) else some (w64 (x56 + s38.2.1))) fun s62 => Option.bind (setI s38.1 s38.2.2 (Int.tmod s62 1000000000)) fun x79 => some (.nx (x79, w64 (Int.tdiv s62 1000000000), w64 (s38.2.2 + 1))) else some (.bk (s38.1, s38.2.1, s38.2.2)))
    (PlusI a b) (fun s => a.length - s.2.2.toNat)
    (fun r => ∃ out c i, r = .fin (out, c, i) ∧ out.length = a.length ∧ Dig out ∧ (0 ≤ c ∧ c ≤ 1) ∧ (0 < c → nv out + bp a.length * c = nv a + nv b) ∧ (c = 0 → nv out = nv a + nv b)) (s := (a, 0, 0))
    ⟨0, rfl, Nat.zero_le _, rfl, ha, by simp, by simp [nv]⟩
    (by
      rintro ⟨s, c, i⟩ ⟨k, rfl, hk, h1, h2, h3, h4⟩
      dsimp only at h1 h2 h3 h4 ⊢
      by_cases hgo : k < a.length ∧ (k < b.length ∨ 0 < c)
      · have e1 : ((decide ((k : Int) < (s.length : Int))) && ((decide ((k : Int) < (b.length : Int))) || (decide ((0 : Int) < c)))) = true := by
          simp only [Bool.and_eq_true, Bool.or_eq_true, decide_eq_true_eq]
          omega
        have hs : s[k]? = some s[k] := List.getElem?_eq_getElem (by omega)
        have hsd := h2.at hs
        rw [if_pos e1]
        simp only [idx_nat, hs, Option.bind_some]
        generalize s[k] = d at hs hsd
        have hw1 : w64 (d + c) = d + c := w64_id (by omega) (by omega)
        have hw2 : w64 ((k : Int) + 1) = ((k + 1 : Nat) : Int) := by rw [w64_id (by omega) (by omega)]; omega
        have fin : ∀ y, 0 ≤ y → y < 1000000000 → nv (b.take (k + 1)) = nv (b.take k) + bp k * y → ∃ s', (Option.bind (setI s (k : Int) (Int.tmod (d + c + y) 1000000000)) fun x79 => some (Ctl.nx (R := List Int) (x79, w64 (Int.tdiv (d + c + y) 1000000000), w64 ((k : Int) + 1)))) = some (.nx s') ∧ (PlusI a b s' ∧ a.length - s'.2.2.toNat < a.length - (k : Int).toNat) := by
          intro y y0 y1 hy
          obtain ⟨q1, q2, q3, q4⟩ := div_parts (d + c + y) (by omega)
          have hw3 : w64 (Int.tdiv (d + c + y) 1000000000) = Int.tdiv (d + c + y) 1000000000 := w64_id (by omega) (by omega)
          rw [setI_at' _ (by omega), hw3, hw2]
          refine ⟨_, rfl, ⟨k + 1, rfl, by omega, by simpa using h1, h2.set k ⟨q1, q2⟩, ⟨q3, ?_⟩, ?_⟩, ?_⟩
          · show Int.tdiv (d + c + y) 1000000000 ≤ 1
            omega
          · show nv (s.set k (Int.tmod (d + c + y) 1000000000)) + bp (k + 1) * Int.tdiv (d + c + y) 1000000000 = _
            refine digit_step (k := k) (c := c) hs (by omega) ?_
            rw [hy, ← Int.add_assoc, ← h4]
            have : d + c + y - d = c + y := by omega
            rw [this, Int.mul_add]
            omega
          · show a.length - ((k + 1 : Nat) : Int).toNat < a.length - (k : Int).toNat
            simp only [Int.toNat_natCast]
            omega
        by_cases hkb : k < b.length
        · have hbk : b[k]? = some b[k] := List.getElem?_eq_getElem hkb
          have hbd := hb.at hbk
          have e2 : decide ((k : Int) < (b.length : Int)) = true := by simp; omega
          simp only [e2, if_true, idx_nat, hbk, Option.bind_some]
          generalize b[k] = y at hbk hbd
          have hw4 : w64 (d + c + y) = d + c + y := w64_id (by omega) (by omega)
          rw [hw1, hw4]
          obtain ⟨s', p1, p2⟩ := fin y hbd.1 hbd.2 (nv_take_succ hbk)
          exact ⟨_, p1, p2⟩
        · have e2 : decide ((k : Int) < (b.length : Int)) = false := by simp; omega
          simp only [e2, Bool.false_eq_true, if_false, Option.bind_some, hw1]
          obtain ⟨s', p1, p2⟩ := fin 0 (by omega) (by omega) (by rw [List.take_of_length_le (by omega), List.take_of_length_le (by omega)]; omega)
          rw [Int.add_zero] at p1
          exact ⟨_, p1, p2⟩
      · have e1 : ((decide ((k : Int) < (s.length : Int))) && ((decide ((k : Int) < (b.length : Int))) || (decide ((0 : Int) < c)))) = false := by
          rw [Bool.eq_false_iff]
          simp only [ne_eq, Bool.and_eq_true, Bool.or_eq_true, decide_eq_true_eq]
          omega
        rw [if_neg (by rw [e1]; decide)]
        refine ⟨_, rfl, s, c, (k : Int), rfl, h1, h2, h3, fun hc => ?_, fun hc => ?_⟩
        · have hka : k = a.length := by omega
          rw [List.take_of_length_le (by omega)] at h4
          rw [← hka]
          exact h4
        · subst hc
          rw [List.take_of_length_le (by omega)] at h4
          simpa using h4)
  rw [hr]
  simp only [Option.bind_some, Lp.andThen_fin]
  by_cases hc : 0 < c
  · have happ : appendL 17592186044416 out [c] = some (out ++ [c]) := by
      unfold appendL
      rw [if_pos (by simp; omega)]
    simp only [hc, decide_true, if_true, happ, Option.bind_some]
    refine ⟨_, rfl, ?_, h2.append fun x hx => by simp at hx; omega, by simp; omega, fun _ => by simp [Trm]; omega⟩
    rw [nv_append, h1]
    simpa [nv] using h4 hc
  · simp only [hc, decide_false, Bool.false_eq_true, if_false, Option.bind_some]
    refine ⟨_, rfl, h5 (by omega), h2, by omega, fun ta => trm_ge h2 ?_⟩
    by_cases h0 : a.length = 0
    · exact .inl (List.length_eq_zero_iff.1 (by omega))
    · right
      have e1 := nv_ge ha ta (by omega)
      have e2 := h5 (by omega)
      have e3 := nv_nonneg hb
      rw [h1]
      omega

theorem plus_spec' (a b : List Int) (ha : Dig a) (hb : Dig b) (la : a.length ≤ 100000) (lb : b.length ≤ 100000) : ∃ r, staff_nat_plus a b = some r ∧ nv r = nv a + nv b ∧ Dig r ∧ r.length ≤ max a.length b.length + 1 ∧ (Trm a → Trm b → Trm r) := by
  unfold staff_nat_plus
  by_cases h : a.length < b.length
  · have e : decide ((a.length : Int) < (b.length : Int)) = true := by simp; omega
    simp only [e, if_true, Option.bind_some]
    obtain ⟨r, h1, h2, h3, h4, h5⟩ := plus_long b a hb ha (by omega) lb
    exact ⟨r, h1, by omega, h3, by omega, fun _ tb => h5 tb⟩
  · have e : decide ((a.length : Int) < (b.length : Int)) = false := by simp; omega
    simp only [e, Bool.false_eq_true, if_false, Option.bind_some]
    obtain ⟨r, h1, h2, h3, h4, h5⟩ := plus_long a b ha hb (by omega) la
    exact ⟨r, h1, h2, h3, by omega, fun ta _ => h5 ta⟩

theorem nv_high {l : List Int} (hd : Dig l) {k : Nat} (h : nv l < bp k) : ∀ j, k ≤ j → j < l.length → l[j]? = some 0 := by
  intro j hj hl
  have hk : l[j]? = some l[j] := List.getElem?_eq_getElem hl
  rw [hk]
  have hx := hd.at hk
  generalize l[j] = x at hk hx
  by_cases h0 : x = 0
  · rw [h0]
  · have h1 := nv_split hk
    have h2 := nv_nonneg (hd.take j)
    have h3 := nv_nonneg (hd.drop (j + 1))
    have h4 := Int.mul_le_mul_of_nonneg_left (show (1 : Int) ≤ x + 1000000000 * nv (l.drop (j + 1)) by omega) (Int.le_of_lt (bp_pos j))
    have h5 := bp_mono hj
    omega

end Go.Proofs.YtnnbhehaplphiaaGreatDoor.M

/-
  Numbers in digits of base 10^9 (staff.nat): products.
-/
namespace Go.Proofs.YtnnbhehaplphiaaGreatDoor.M
open Go Go.Pu
set_option linter.unusedSimpArgs false
set_option linter.unusedVariables false

/-- the row of one digit's product -/
theorem times_row (a b : List Int) (ha : Dig a) (hb : Dig b) (la : a.length ≤ 100000) (lb : b.length ≤ 100000) (i : Nat) (x : Int) (hx : a[i]? = some x) (out : List Int) (ho : out.length = a.length + b.length) (hd : Dig out) (hv : nv out = nv (a.take i) * nv b) :
    ∃ t, rangeB (R := Empty) (fun k57 (s65 : List Int × Int) => Option.bind (idx b (k57 : Int)) fun x80 => Option.bind (idx s65.1 (w64 ((i : Int) + (k57 : Int)))) fun x84 => Option.bind (setI s65.1 (w64 ((i : Int) + (k57 : Int))) (Int.tmod (w64 ((w64 (x84 + (w64 (x * x80)))) + s65.2)) 1000000000)) fun x93 => some (.nx (x93, w64 (Int.tdiv (w64 ((w64 (x84 + (w64 (x * x80)))) + s65.2)) 1000000000)))) b.length 0 (out, 0) = some (.fin t) ∧
      t.1.length = a.length + b.length ∧ Dig t.1 ∧ (0 ≤ t.2 ∧ t.2 < 1000000000) ∧ nv t.1 + bp (i + b.length) * t.2 = nv (a.take (i + 1)) * nv b ∧ t.1[i + b.length]? = some 0 := by
  have hi := (List.getElem?_eq_some_iff.1 hx).1
  have hxd := ha.at hx
  have hlow : nv out < bp (i + b.length) := by
    rw [hv, bp_add]
    have h1 := nv_lt (ha.take i)
    have h2 := nv_lt hb
    have h3 := nv_nonneg (ha.take i)
    have h4 := nv_nonneg hb
    have e : (a.take i).length = i := by rw [List.length_take]; omega
    rw [e] at h1
    have h5 := Int.mul_le_mul (show nv (a.take i) ≤ bp i - 1 by omega) (show nv b ≤ bp b.length - 1 by omega) h4 (by have := bp_pos i; omega)
    have h6 := bp_pos i
    have h7 := bp_pos b.length
    have h8 : (bp i - 1) * (bp b.length - 1) < bp i * bp b.length := by
      rw [Int.sub_mul, Int.mul_sub, Int.mul_one, Int.one_mul]
      omega
    omega
  obtain ⟨t, ht, h1, h2, h3, h4, h5⟩ := rangeB_inv (R := Empty) (b := fun k57 (s65 : List Int × Int) => Option.bind (idx b (k57 : Int)) fun x80 => Option.bind (idx s65.1 (w64 ((i : Int) + (k57 : Int)))) fun x84 => Option.bind (setI s65.1 (w64 ((i : Int) + (k57 : Int))) (Int.tmod (w64 ((w64 (x84 + (w64 (x * x80)))) + s65.2)) 1000000000)) fun x93 => some (.nx (x93, w64 (Int.tdiv (w64 ((w64 (x84 + (w64 (x * x80)))) + s65.2)) 1000000000))))
    b.length (fun k s => s.1.length = a.length + b.length ∧ Dig s.1 ∧ (0 ≤ s.2 ∧ s.2 < 1000000000) ∧ nv s.1 + bp (i + k) * s.2 = nv (a.take i) * nv b + bp i * (x * nv (b.take k)) ∧ s.1[i + b.length]? = some 0)
    (s := (out, 0)) ⟨ho, hd, ⟨Int.le_refl _, by show (0 : Int) < 1000000000; decide⟩, by simp [nv, hv], nv_high hd hlow _ (Nat.le_refl _) (by omega)⟩
    (by
      rintro k ⟨s, c⟩ hk ⟨h1, h2, h3, h4, h5⟩
      dsimp only at h1 h2 h3 h4 h5
      have hbk : b[k]? = some b[k] := List.getElem?_eq_getElem hk
      have hbd := hb.at hbk
      have hw : w64 ((i : Int) + (k : Int)) = ((i + k : Nat) : Int) := by rw [w64_id (by omega) (by omega)]; omega
      have hs : s[i + k]? = some s[i + k] := List.getElem?_eq_getElem (by omega)
      have hsd := h2.at hs
      simp only [idx_nat, hbk, Option.bind_some, hw, hs]
      have htk := nv_take_succ hbk
      generalize b[k] = y at hbk hbd htk
      generalize s[i + k] = d at hs hsd
      have hxy : 0 ≤ x * y ∧ x * y ≤ 999999999 * 999999999 := ⟨Int.mul_nonneg hxd.1 hbd.1, Int.mul_le_mul (by omega) (by omega) hbd.1 (by decide)⟩
      have w1 : w64 (x * y) = x * y := w64_id (by omega) (by omega)
      have w2 : w64 (d + x * y) = d + x * y := w64_id (by omega) (by omega)
      have w3 : w64 (d + x * y + c) = d + x * y + c := w64_id (by omega) (by omega)
      obtain ⟨q1, q2, q3, q4⟩ := div_parts (d + x * y + c) (by omega)
      have w4 : w64 (Int.tdiv (d + x * y + c) 1000000000) = Int.tdiv (d + x * y + c) 1000000000 := w64_id (by omega) (by omega)
      rw [w1, w2, w3, w4, setI_at' _ (by omega)]
      refine ⟨_, rfl, by simpa using h1, h2.set _ ⟨q1, q2⟩, ⟨q3, by show Int.tdiv (d + x * y + c) 1000000000 < 1000000000; omega⟩, ?_, ?_⟩
      · show nv (s.set (i + k) (Int.tmod (d + x * y + c) 1000000000)) + bp (i + (k + 1)) * Int.tdiv (d + x * y + c) 1000000000 = _
        refine digit_step (k := k) (c := c) hs (by omega) ?_
        rw [htk]
        have e1 : d + x * y + c - d = x * y + c := by omega
        rw [e1, Int.mul_add, Int.mul_add, Int.mul_add]
        have e2 : bp i * (x * (bp k * y)) = bp (i + k) * (x * y) := by
          rw [bp_add, Int.mul_assoc, Int.mul_left_comm x (bp k) y]
        rw [e2]
        omega
      · show (s.set (i + k) _)[i + b.length]? = some 0
        rw [List.getElem?_set_ne (by omega)]
        exact h5)
  refine ⟨t, ht, h1, h2, h3, ?_, h5⟩
  rw [h4, List.take_length, nv_take_succ hx, Int.add_mul, Int.mul_assoc]

theorem times_spec (a b : List Int) (ha : Dig a) (hb : Dig b) (la : a.length ≤ 100000) (lb : b.length ≤ 100000) : ∃ r, staff_nat_times a b = some r ∧ nv r = nv a * nv b ∧ Dig r ∧ Trm r ∧ r.length ≤ a.length + b.length := by
  unfold staff_nat_times
  by_cases h0 : a.length = 0 ∨ b.length = 0
  · have e : (((a.length : Int) == 0) || ((b.length : Int) == 0)) = true := by
      simp only [Bool.or_eq_true, beq_iff_eq]
      omega
    rw [if_pos e]
    refine ⟨[], rfl, ?_, fun x hx => by simp at hx, by simp [Trm], by simp⟩
    rcases h0 with h0 | h0
    · obtain rfl := List.length_eq_zero_iff.1 h0
      simp [nv]
    · obtain rfl := List.length_eq_zero_iff.1 h0
      simp [nv]
  · have e : (((a.length : Int) == 0) || ((b.length : Int) == 0)) = false := by
      rw [Bool.eq_false_iff]
      simp only [ne_eq, Bool.or_eq_true, beq_iff_eq]
      omega
    rw [if_neg (by rw [e]; decide)]
    have hw : w64 ((a.length : Int) + (b.length : Int)) = ((a.length + b.length : Nat) : Int) := by rw [w64_id (by omega) (by omega)]; omega
    have hmk : makeL 35184372088832 (w64 ((a.length : Int) + (b.length : Int))) (0 : Int) = some (List.replicate (a.length + b.length) 0) := by
      rw [hw]
      unfold makeL
      rw [if_pos (by omega), Int.toNat_natCast]
    rw [hmk]
    simp only [Option.bind_some]
    obtain ⟨t, ht, h1, h2, h3⟩ := rangeB_inv (R := List Int) (b := fun k17 s25 => Option.bind (Option.bind (idx a (k17 : Int)) fun x50 => Option.bind (rangeB (R := Empty) (fun k57 s65 => Option.bind (idx b (k57 : Int)) fun x80 => Option.bind (idx s65.1 (w64 ((k17 : Int) + (k57 : Int)))) fun x84 => Option.bind (setI s65.1 (w64 ((k17 : Int) + (k57 : Int))) (Int.tmod (w64 ((w64 (x84 + (w64 (x50 * x80)))) + s65.2)) 1000000000)) fun x93 => some (.nx (x93, w64 (Int.tdiv (w64 ((w64 (x84 + (w64 (x50 * x80)))) + s65.2)) 1000000000)))) b.length 0 (s25, 0)) fun o54 => o54.andThen (fun y => y.elim) fun s55 => Option.bind (whileB (R := Empty) (fun s111 => if (decide ((0 : Int) < s111.2.1)) = true then Option.bind (idx s111.1 s111.2.2) fun x125 => Option.bind (setI s111.1 s111.2.2 (Int.tmod (w64 (x125 + s111.2.1)) 1000000000)) fun x134 => some (.nx (x134, w64 (Int.tdiv (w64 (x125 + s111.2.1)) 1000000000), w64 (s111.2.2 + 1))) else some (.bk (s111.1, s111.2.1, s111.2.2))) (s55.1, s55.2, w64 ((k17 : Int) + (b.length : Int)))) fun o100 => o100.andThen (fun y => y.elim) fun s101 => some s101.1) fun s41 => some (.nx s41))
      a.length (fun k s => s.length = a.length + b.length ∧ Dig s ∧ nv s = nv (a.take k) * nv b) (s := List.replicate (a.length + b.length) 0) ⟨by simp, Dig.zeros _, by simp [nv_zeros, nv]⟩
      (by
        rintro k s hk ⟨h1, h2, h3⟩
        have hak : a[k]? = some a[k] := List.getElem?_eq_getElem hk
        simp only [idx_nat, hak, Option.bind_some]
        generalize a[k] = x at hak
        obtain ⟨⟨s1, c⟩, hrow, r1, r2, r3, r4, r5⟩ := times_row a b ha hb la lb k x hak s h1 h2 h3
        dsimp only at r1 r2 r3 r4 r5
        simp only [idx_nat] at hrow
        rw [hrow]
        simp only [Option.bind_some, Lp.andThen_fin]
        have hw2 : w64 ((k : Int) + (b.length : Int)) = ((k + b.length : Nat) : Int) := by rw [w64_id (by omega) (by omega)]; omega
        rw [hw2]
        by_cases hc : 0 < c
        · have hwhile : whileB (R := Empty) (fun (s111 : List Int × Int × Int) => if (decide ((0 : Int) < s111.2.1)) = true then Option.bind (idx s111.1 s111.2.2) fun x125 => Option.bind (setI s111.1 s111.2.2 (Int.tmod (w64 (x125 + s111.2.1)) 1000000000)) fun x134 => some (.nx (x134, w64 (Int.tdiv (w64 (x125 + s111.2.1)) 1000000000), w64 (s111.2.2 + 1))) else some (.bk (s111.1, s111.2.1, s111.2.2))) (s1, c, ((k + b.length : Nat) : Int)) = some (.fin (s1.set (k + b.length) c, 0, ((k + b.length + 1 : Nat) : Int))) := by
            refine whileB_iff.2 ⟨2, ?_⟩
            have e1 : decide ((0 : Int) < c) = true := by simpa using hc
            have e2 : w64 (0 + c) = c := by rw [Int.zero_add]; exact w64_id (by omega) (by omega)
            have e3 : Int.tmod c 1000000000 = c := Int.tmod_eq_of_lt r3.1 r3.2
            have e4 : Int.tdiv c 1000000000 = 0 := Int.tdiv_eq_zero_of_lt r3.1 r3.2
            have e5 : w64 0 = 0 := by decide
            have e6 : w64 (((k + b.length : Nat) : Int) + 1) = ((k + b.length + 1 : Nat) : Int) := by rw [w64_id (by omega) (by omega)]; omega
            rw [whileN]
            simp only [e1, if_true, idx_nat, r5, Option.bind_some, e2, e3, e4, e5, e6, setI_at' _ (show k + b.length < s1.length by omega)]
            rfl
          rw [hwhile]
          refine ⟨_, rfl, by simpa using r1, r2.set _ r3, ?_⟩
          rw [nv_set s1 _ c 0 r5, Int.sub_zero]
          exact r4
        · have hc0 : c = 0 := by omega
          subst hc0
          have hwhile : whileB (R := Empty) (fun (s111 : List Int × Int × Int) => if (decide ((0 : Int) < s111.2.1)) = true then Option.bind (idx s111.1 s111.2.2) fun x125 => Option.bind (setI s111.1 s111.2.2 (Int.tmod (w64 (x125 + s111.2.1)) 1000000000)) fun x134 => some (.nx (x134, w64 (Int.tdiv (w64 (x125 + s111.2.1)) 1000000000), w64 (s111.2.2 + 1))) else some (.bk (s111.1, s111.2.1, s111.2.2))) (s1, 0, ((k + b.length : Nat) : Int)) = some (.fin (s1, 0, ((k + b.length : Nat) : Int))) := whileB_iff.2 ⟨1, rfl⟩
          rw [hwhile]
          refine ⟨_, rfl, r1, r2, ?_⟩
          simpa using r4)
    rw [ht]
    simp only [Option.bind_some, Lp.andThen_fin]
    obtain ⟨r, r1, r2, r3, r4, r5⟩ := trimmed_spec t h2 (by omega)
    rw [r1]
    refine ⟨r, rfl, ?_, r3, r4, by omega⟩
    rw [r2, h3, List.take_length]
end Go.Proofs.YtnnbhehaplphiaaGreatDoor.M

/-
  Numbers in digits of base 10^9 (staff.nat): the division by one digit, and what division does to a part of a row.
-/
namespace Go.Proofs.YtnnbhehaplphiaaGreatDoor.M
open Go Go.Pu
set_option linter.unusedSimpArgs false
set_option linter.unusedVariables false

theorem rangeB_el {S R T : Type} {b : Nat → S → Option (Ctl S R)} {n : Nat} {s0 : S} {G : R → Option T} {F : S → Option T} (P : Option T → Prop) (I : Nat → S → Prop) (h0 : I 0 s0)
    (round : ∀ k s, k < n → I k s → ∃ t, b k s = some (.nx t) ∧ I (k + 1) t) (hF : ∀ s, I n s → P (F s)) : P (Option.bind (rangeB b n 0 s0) fun o => o.andThen G F) := by
  obtain ⟨t, ht, hI⟩ := rangeB_inv n I h0 round
  rw [ht]
  exact hF t hI
theorem whileB_el {S R T : Type} {b : S → Option (Ctl S R)} {s0 : S} {G : R → Option T} {F : S → Option T} (P : Option T → Prop) (I J : S → Prop) (mu : S → Nat) (h0 : I s0)
    (round : ∀ s, I s → (∃ t, b s = some (.nx t) ∧ I t ∧ mu t < mu s) ∨ (∃ t, b s = some (.bk t) ∧ J t)) (hF : ∀ s, J s → P (F s)) : P (Option.bind (whileB b s0) fun o => o.andThen G F) := by
  obtain ⟨r, hr, t, rfl, hJ⟩ := whileB_spec (body := b) I mu (fun r => ∃ t, r = .fin t ∧ J t) h0 (by
    intro s hs
    rcases round s hs with ⟨t, h1, h2, h3⟩ | ⟨t, h1, h2⟩
    · exact ⟨_, h1, h2, h3⟩
    · exact ⟨_, h1, t, rfl, h2⟩)
  rw [hr]
  exact hF t hJ

theorem bp_succ (k : Nat) (x : Int) : bp (k + 1) * x = bp k * (1000000000 * x) := by
  rw [bp, Int.mul_comm 1000000000 (bp k), Int.mul_assoc]
theorem nv_take_at {l : List Int} {k : Nat} {x : Int} (h : l[k]? = some x) : nv (l.take (k + 1)) = nv (l.take k) + bp k * x := by
  have hk := (List.getElem?_eq_some_iff.1 h).1
  rw [List.take_add_one, h]
  show nv (l.take k ++ [x]) = _
  rw [nv_append, List.length_take, Nat.min_eq_left (by omega)]
  simp [nv]
/-- with one digit on top -/
theorem nv_top {l : List Int} {n : Nat} {x : Int} (hl : l.length = n + 1) (h : l[n]? = some x) : nv l = nv (l.take n) + bp n * x := by
  have := nv_take_at h
  rwa [List.take_of_length_le (by omega)] at this

theorem takeAway_spec (m d : List Int) (g : Int) (hm : Dig m) (hd : Dig d) (hl : m.length = d.length + 1) (hg : 0 ≤ g ∧ g < 1000000000) (hn : d.length ≤ 1000000) :
    ∃ r x, staff_takeAway m d g = some (decide (x < 0), r) ∧ r.length = m.length ∧ Dig (r.take d.length) ∧ r[d.length]? = some x ∧ nv r = nv m - g * nv d ∧ -2000000000 ≤ x ∧ x < 1000000000 := by
  unfold staff_takeAway
  refine rangeB_el (s0 := (m, 0)) (fun o => ∃ r x, o = some (decide (x < 0), r) ∧ r.length = m.length ∧ Dig (r.take d.length) ∧ r[d.length]? = some x ∧ nv r = nv m - g * nv d ∧ -2000000000 ≤ x ∧ x < 1000000000)
    (fun k (s : List Int × Int) => s.1.length = m.length ∧ Dig s.1 ∧ (0 ≤ s.2 ∧ s.2 ≤ 1000000001) ∧ nv s.1 - bp k * s.2 = nv m - g * nv (d.take k) ∧ s.1[d.length]? = m[d.length]?) ⟨rfl, hm, ⟨Int.le_refl _, by show (0 : Int) ≤ _; decide⟩, by simp [nv], rfl⟩ ?_ ?_
  · rintro k ⟨s, c⟩ hk ⟨h1, h2, h3, h4, h5⟩
    dsimp only at h1 h2 h3 h4 h5 ⊢
    have hsk : s[k]? = some s[k] := List.getElem?_eq_getElem (by omega)
    have hdk : d[k]? = some d[k] := List.getElem?_eq_getElem hk
    simp only [idx_nat, hsk, hdk, Option.bind_some]
    have hsr := h2.at hsk
    have hdr := hd.at hdk
    have hdt := nv_take_at hdk
    generalize s[k] = x at hsk hsr
    generalize d[k] = y at hdk hdr hdt
    have hyg : 0 ≤ y * g ∧ y * g ≤ 999999999 * 999999999 := ⟨Int.mul_nonneg hdr.1 hg.1, Int.mul_le_mul (by omega) (by omega) hg.1 (by decide)⟩
    have w1 : w64 (y * g) = y * g := w64_id (by omega) (by omega)
    obtain ⟨q1, q2, q3, q4⟩ := div_parts (y * g) hyg.1
    rw [w1]
    generalize Int.tmod (y * g) 1000000000 = p at q1 q2 q4
    generalize Int.tdiv (y * g) 1000000000 = h at q3 q4
    have hh : h ≤ 999999998 := by omega
    have w2 : w64 (x - p) = x - p := w64_id (by omega) (by omega)
    have w3 : w64 (x - p - c) = x - p - c := w64_id (by omega) (by omega)
    have w4 : w64 h = h := w64_id (by omega) (by omega)
    have w5 : w64 (x - p - c + 1000000000) = x - p - c + 1000000000 := w64_id (by omega) (by omega)
    have w6 : w64 (x - p - c + 1000000000 + 1000000000) = x - p - c + 1000000000 + 1000000000 := w64_id (by omega) (by omega)
    have w7 : w64 (h + 1) = h + 1 := w64_id (by omega) (by omega)
    have w8 : w64 (h + 1 + 1) = h + 1 + 1 := w64_id (by omega) (by omega)
    simp only [w2, w3, w4, w5, w6, w7, w8]
    -- one digit e with the borrow b
    have fin : ∀ b e : Int, 0 ≤ e → e < 1000000000 → 0 ≤ b → b ≤ 1000000001 → e - 1000000000 * b = x - y * g - c → ∃ t, (Option.bind (setI s (k : Int) e) fun x66 => some (Ctl.nx (R := Bool × List Int) (x66, b))) = some (Ctl.nx t) ∧
        t.1.length = m.length ∧ Dig t.1 ∧ (0 ≤ t.2 ∧ t.2 ≤ 1000000001) ∧ nv t.1 - bp (k + 1) * t.2 = nv m - g * nv (d.take (k + 1)) ∧ t.1[d.length]? = m[d.length]? := by
      intro b e e0 e1 b0 b1 he
      rw [setI_at' _ (by omega)]
      refine ⟨_, rfl, by simpa using h1, h2.set k ⟨e0, e1⟩, ⟨b0, b1⟩, ?_, ?_⟩
      · show nv (s.set k e) - bp (k + 1) * b = _
        rw [nv_set s k e x hsk, bp_succ, hdt, Int.mul_add, Int.mul_left_comm g, Int.mul_comm g y]
        have e5 : bp k * (e - x) - bp k * (1000000000 * b) = bp k * (-(y * g) - c) := by
          rw [← Int.mul_sub]
          congr 1
          omega
        have e6 : bp k * (-(y * g) - c) = - (bp k * (y * g)) - bp k * c := by rw [Int.mul_sub, Int.mul_neg]
        omega
      · show (s.set k e)[d.length]? = _
        rw [List.getElem?_set_ne (by omega)]
        exact h5
    by_cases c1 : x - p - c < 0
    · have d1 : decide (x - p - c < 0) = true := by rw [decide_eq_true_eq]; exact c1
      by_cases c2 : x - p - c + 1000000000 < 0
      · have d2 : decide (x - p - c + 1000000000 < 0) = true := by rw [decide_eq_true_eq]; exact c2
        simp only [d1, d2, if_true, Option.bind_some]
        exact fin (h + 1 + 1) (x - p - c + 1000000000 + 1000000000) (by omega) (by omega) (by omega) (by omega) (by omega)
      · have d2 : decide (x - p - c + 1000000000 < 0) = false := by rw [decide_eq_false_iff_not]; exact c2
        simp only [d1, d2, if_true, Bool.false_eq_true, if_false, Option.bind_some]
        exact fin (h + 1) (x - p - c + 1000000000) (by omega) (by omega) (by omega) (by omega) (by omega)
    · have d1 : decide (x - p - c < 0) = false := by rw [decide_eq_false_iff_not]; exact c1
      simp only [d1, Bool.false_eq_true, if_false, Option.bind_some]
      exact fin h (x - p - c) (by omega) (by omega) (by omega) (by omega) (by omega)
  · rintro ⟨s, c⟩ ⟨h1, h2, h3, h4, h5⟩
    dsimp only at h1 h2 h3 h4 h5 ⊢
    have hmn : m[d.length]? = some m[d.length] := List.getElem?_eq_getElem (by omega)
    have hmr := hm.at hmn
    generalize m[d.length] = x at hmn hmr
    rw [hmn] at h5
    have w1 : w64 (x - c) = x - c := w64_id (by omega) (by omega)
    have hset : (s.set d.length (x - c))[d.length]? = some (x - c) := by rw [List.getElem?_set_self (by omega)]
    simp only [idx_nat, h5, Option.bind_some, w1, setI_at' _ (show d.length < s.length by omega), hset]
    refine ⟨_, x - c, rfl, by simpa using h1, ?_, hset, ?_, by omega, by omega⟩
    · rw [List.take_set_of_le (Nat.le_refl _)]
      exact h2.take _
    · rw [nv_set s _ _ x h5]
      rw [List.take_length] at h4
      have : bp d.length * (x - c - x) = - (bp d.length * c) := by rw [← Int.mul_neg]; congr 1; omega
      omega

theorem putBack_spec (m d : List Int) (x : Int) (hm : Dig (m.take d.length)) (hd : Dig d) (hl : m.length = d.length + 1) (hx : m[d.length]? = some x) (hxr : -2000000000 ≤ x ∧ x < 1000000000) (hn : d.length ≤ 1000000) :
    ∃ r y, staff_putBack m d = some r ∧ r.length = m.length ∧ Dig (r.take d.length) ∧ r[d.length]? = some y ∧ nv r = nv m + nv d := by
  unfold staff_putBack
  refine rangeB_el (s0 := (m, 0)) (fun o => ∃ r y, o = some r ∧ r.length = m.length ∧ Dig (r.take d.length) ∧ r[d.length]? = some y ∧ nv r = nv m + nv d)
    (fun k (s : List Int × Int) => s.1.length = m.length ∧ Dig (s.1.take d.length) ∧ (0 ≤ s.2 ∧ s.2 ≤ 1) ∧ nv s.1 + bp k * s.2 = nv m + nv (d.take k) ∧ s.1[d.length]? = m[d.length]?) ⟨rfl, hm, ⟨Int.le_refl _, by show (0 : Int) ≤ _; decide⟩, by simp [nv], rfl⟩ ?_ ?_
  · rintro k ⟨s, c⟩ hk ⟨h1, h2, h3, h4, h5⟩
    dsimp only at h1 h2 h3 h4 h5 ⊢
    have hsk : s[k]? = some s[k] := List.getElem?_eq_getElem (by omega)
    have hdk : d[k]? = some d[k] := List.getElem?_eq_getElem hk
    simp only [idx_nat, hsk, hdk, Option.bind_some]
    have hsr : 0 ≤ s[k] ∧ s[k] < 1000000000 := h2.at (k := k) (by rw [List.getElem?_take, if_pos hk]; exact hsk)
    have hdr := hd.at hdk
    have hdt := nv_take_at hdk
    generalize s[k] = x at hsk hsr
    generalize d[k] = y at hdk hdr hdt
    have w1 : w64 (x + y) = x + y := w64_id (by omega) (by omega)
    have w2 : w64 (x + y + c) = x + y + c := w64_id (by omega) (by omega)
    obtain ⟨q1, q2, q3, q4⟩ := div_parts (x + y + c) (by omega)
    rw [w1, w2, setI_at' _ (by omega)]
    generalize Int.tmod (x + y + c) 1000000000 = p at q1 q2 q4
    generalize Int.tdiv (x + y + c) 1000000000 = h at q3 q4
    have w3 : w64 h = h := w64_id (by omega) (by omega)
    rw [w3]
    refine ⟨_, rfl, by simpa using h1, ?_, ⟨q3, by show h ≤ 1; omega⟩, ?_, ?_⟩
    · show Dig ((s.set k p).take d.length)
      rw [List.take_set]
      exact h2.set k ⟨q1, q2⟩
    · show nv (s.set k p) + bp (k + 1) * h = _
      rw [nv_set s k p x hsk, bp_succ, hdt]
      have e5 : bp k * (p - x) + bp k * (1000000000 * h) = bp k * (y + c) := by
        rw [← Int.mul_add]
        congr 1
        omega
      rw [Int.mul_add] at e5
      omega
    · show (s.set k p)[d.length]? = _
      rw [List.getElem?_set_ne (by omega)]
      exact h5
  · rintro ⟨s, c⟩ ⟨h1, h2, h3, h4, h5⟩
    dsimp only at h1 h2 h3 h4 h5 ⊢
    rw [hx] at h5
    have w1 : w64 (x + c) = x + c := w64_id (by omega) (by omega)
    have hset : (s.set d.length (x + c))[d.length]? = some (x + c) := by rw [List.getElem?_set_self (by omega)]
    simp only [idx_nat, h5, Option.bind_some, w1, setI_at' _ (show d.length < s.length by omega)]
    refine ⟨_, x + c, rfl, by simpa using h1, ?_, hset, ?_⟩
    · rw [List.take_set_of_le (Nat.le_refl _)]
      exact h2
    · rw [nv_set s _ _ x h5]
      rw [List.take_length] at h4
      have : bp d.length * (x + c - x) = bp d.length * c := by congr 1; omega
      omega

/-- part divides by a number below base -/
theorem part_spec (a : List Int) (n : Int) (hd : Dig a) (hn : 0 < n ∧ n < 1000000000) (hlen : a.length ≤ 100000) : ∃ q r, staff_nat_part a n = some (q, r) ∧ nv q * n + r = nv a ∧ (0 ≤ r ∧ r < n) ∧ Dig q ∧ Trm q ∧ q.length ≤ a.length := by
  unfold staff_nat_part
  have hmk : makeL 35184372088832 (a.length : Int) (0 : Int) = some (List.replicate a.length 0) := by
    unfold makeL
    rw [if_pos (by omega), Int.toNat_natCast]
  have hw0 : w64 ((a.length : Int) - 1) = (a.length : Int) - 1 := w64_id (by omega) (by omega)
  rw [hmk, hw0]
  simp only [Option.bind_some]
  refine whileB_el (s0 := (List.replicate a.length 0, 0, (a.length : Int) - 1)) (fun o => ∃ q r, o = some (q, r) ∧ nv q * n + r = nv a ∧ (0 ≤ r ∧ r < n) ∧ Dig q ∧ Trm q ∧ q.length ≤ a.length)
    (fun s => ∃ k : Nat, s.2.2 = (k : Int) - 1 ∧ k ≤ a.length ∧ s.1.length = a.length ∧ Dig s.1 ∧ (0 ≤ s.2.1 ∧ s.2.1 < n) ∧ (∀ j, j < k → s.1[j]? = some 0) ∧ nv s.1 * n + bp k * s.2.1 + nv (a.take k) = nv a)
    (fun s => s.1.length = a.length ∧ Dig s.1 ∧ (0 ≤ s.2.1 ∧ s.2.1 < n) ∧ nv s.1 * n + s.2.1 = nv a) (fun s => (s.2.2 + 1).toNat)
    ⟨a.length, rfl, Nat.le_refl _, by simp, Dig.zeros _, ⟨Int.le_refl _, hn.1⟩, fun j hj => by simp [hj], by simp [nv_zeros]⟩ ?_ ?_
  · rintro ⟨s, c, i⟩ ⟨k, hi, hk, h1, h2, h3, h4, h5⟩
    dsimp only at hi h1 h2 h3 h4 h5 ⊢
    subst hi
    cases k with
    | zero =>
      right
      refine ⟨(s, c, ((0 : Nat) : Int) - 1), rfl, h1, h2, h3, ?_⟩
      simpa [nv, bp] using h5
    | succ k =>
      left
      have e2 : ((k + 1 : Nat) : Int) - 1 = (k : Int) := by omega
      have e3 : decide ((0 : Int) ≤ (k : Int)) = true := by simp
      have hw : w64 ((k : Int) - 1) = (k : Int) - 1 := w64_id (by omega) (by omega)
      have hka : a[k]? = some a[k] := List.getElem?_eq_getElem (by omega)
      have hs := h4 k (by omega)
      have hta := nv_take_at hka
      rw [e2]
      simp only [e3, if_true, idx_nat, hka, hs, Option.bind_some, hw]
      have hx := hd.at hka
      generalize a[k] = x at hka hta hx
      have w1 : w64 (c * 1000000000) = c * 1000000000 := w64_id (by omega) (by omega)
      have w2 : w64 (c * 1000000000 + x) = c * 1000000000 + x := w64_id (by omega) (by omega)
      have hm : 0 ≤ c * 1000000000 + x := by omega
      obtain ⟨q1, q2, _⟩ := tdiv_spec (c * 1000000000 + x) n (by omega)
      obtain ⟨q3, q4, q5, q6, q7⟩ := q2 hm
      have hn0 : n ≠ 0 := by omega
      generalize hq : Int.tdiv (c * 1000000000 + x) n = q at q1 q3 q6
      generalize hrm : Int.tmod (c * 1000000000 + x) n = rm at q1 q4 q5 q7
      have hq2 : q < 1000000000 := by
        by_cases h : q < 1000000000
        · exact h
        · have h5 := Int.mul_le_mul_of_nonneg_left (show (1000000000 : Int) ≤ q by omega) (show 0 ≤ n by omega)
          have h6 := Int.mul_le_mul_of_nonneg_right (show c + 1 ≤ n by omega) (show (0 : Int) ≤ 1000000000 by decide)
          omega
      have hquo : quo (c * 1000000000 + x) n = some q := by
        unfold quo
        rw [if_neg hn0, hq]
        congr 1
        exact w64_id (by omega) (by omega)
      have hrem : rem (c * 1000000000 + x) n = some rm := by
        unfold rem
        rw [if_neg hn0, hrm]
      simp only [w1, w2, hquo, hrem, Option.bind_some, setI_at' _ (show k < s.length by omega)]
      refine ⟨_, rfl, ⟨k, rfl, by omega, by simpa using h1, h2.set k ⟨q3, hq2⟩, ⟨q4, q5⟩, fun j hj => ?_, ?_⟩, ?_⟩
      · show (s.set k _)[j]? = some 0
        rw [List.getElem?_set_ne (by omega)]
        exact h4 j (by omega)
      · show nv (s.set k q) * n + bp k * rm + nv (a.take k) = nv a
        rw [nv_set s k q 0 hs, Int.sub_zero, Int.add_mul]
        have e5 : bp k * q * n + bp k * rm = bp (k + 1) * c + bp k * x := by
          rw [bp_succ, ← Int.mul_add, Int.mul_assoc, ← Int.mul_add]
          congr 1
          rw [Int.mul_comm q n]
          omega
        rw [hta] at h5
        omega
      · show ((k : Int) - 1 + 1).toNat < ((k : Int) + 1).toNat
        omega
  · rintro ⟨s, c, i⟩ ⟨h1, h2, h3, h4⟩
    dsimp only at h1 h2 h3 h4 ⊢
    obtain ⟨r, r1, r2, r3, r4, r5⟩ := trimmed_spec s h2 (by omega)
    rw [r1]
    exact ⟨r, c, rfl, by rw [r2]; exact h4, h3, r3, r4, by omega⟩
end Go.Proofs.YtnnbhehaplphiaaGreatDoor.M
