/-
  Numbers in digits of base 10^9 (staff.nat): what the operations compute.
-/
import Derived.Test.YtcehkbhloaeflaaDoorTopStaffedM
import Derived.Test.YtcehkbhloaeflaaDoorPl
namespace Go.Proofs.YtcehkbhloaeflaaDoor.M
open Go Go.Pu
set_option linter.unusedSimpArgs false
set_option linter.unusedVariables false

/-- the number -/
def nv : List Int → Int
  | [] => 0
  | x :: l => x + 1000000000 * nv l
def Dig (l : List Int) : Prop := ∀ x ∈ l, 0 ≤ x ∧ x < 1000000000
/-- no 0 at the end -/
def Trm (l : List Int) : Prop := l.getLast? ≠ some 0
def bp : Nat → Int
  | 0 => 1
  | k + 1 => 1000000000 * bp k

theorem bp_pos : ∀ k, 0 < bp k
  | 0 => by decide
  | k + 1 => by have := bp_pos k; simp only [bp]; omega
theorem nv_append (l m : List Int) : nv (l ++ m) = nv l + bp l.length * nv m := by
  induction l with
  | nil => simp [nv, bp]
  | cons x l ih =>
    simp only [List.cons_append, nv, ih, List.length_cons, bp]
    rw [Int.mul_add, ← Int.mul_assoc, Int.add_assoc]
theorem nv_zeros (n : Nat) : nv (List.replicate n 0) = 0 := by
  induction n with
  | zero => rfl
  | succ n ih => rw [List.replicate_succ, nv, ih]; rfl
theorem nv_nonneg : ∀ {l : List Int}, Dig l → 0 ≤ nv l
  | [], _ => Int.le_refl _
  | x :: l, h => by
    have h1 := nv_nonneg (l := l) fun y hy => h y (List.mem_cons_of_mem _ hy)
    have h2 := h x (List.mem_cons_self ..)
    simp only [nv]
    omega
theorem nv_lt : ∀ {l : List Int}, Dig l → nv l < bp l.length
  | [], _ => by decide
  | x :: l, h => by
    have h1 := nv_lt (l := l) fun y hy => h y (List.mem_cons_of_mem _ hy)
    have h2 := h x (List.mem_cons_self ..)
    simp only [nv, List.length_cons, bp]
    omega
theorem Dig.append {l m : List Int} (h : Dig l) (h' : Dig m) : Dig (l ++ m) := fun x hx => (List.mem_append.1 hx).elim (h x) (h' x)
theorem Dig.zeros (n : Nat) : Dig (List.replicate n 0) := fun x hx => by have := List.eq_of_mem_replicate hx; omega
theorem Dig.set {l : List Int} (h : Dig l) (k : Nat) {x : Int} (hx : 0 ≤ x ∧ x < 1000000000) : Dig (l.set k x) := fun y hy => by
  rcases List.mem_or_eq_of_mem_set hy with h1 | rfl
  · exact h y h1
  · exact hx
theorem Dig.at {l : List Int} (h : Dig l) {k : Nat} {x : Int} (hk : l[k]? = some x) : 0 ≤ x ∧ x < 1000000000 := h x (List.mem_of_getElem? hk)

/-- one digit set -/
theorem nv_set : ∀ (l : List Int) (k : Nat) (x y : Int), l[k]? = some y → nv (l.set k x) = nv l + bp k * (x - y)
  | [], _, _, _, h => by simp at h
  | z :: l, 0, x, y, h => by
    simp at h
    subst h
    simp only [List.set_cons_zero, nv, bp]
    omega
  | z :: l, k + 1, x, y, h => by
    simp at h
    simp only [List.set_cons_succ, nv, bp, nv_set l k x y h, Int.mul_add, ← Int.mul_assoc]
    omega

theorem setI_at' {l : List Int} {k : Nat} (x : Int) (h : k < l.length) : setI l (k : Int) x = some (l.set k x) := by
  unfold setI
  rw [if_pos (by omega), Int.toNat_natCast]

theorem take_last {l : List Int} {x : Int} (h : l[l.length - 1]? = some x) : l.take (l.length - 1) ++ [x] = l := by
  have hlt := (List.getElem?_eq_some_iff.1 h).1
  obtain ⟨_, h2⟩ := List.getElem?_eq_some_iff.1 h
  have : l = l.take (l.length - 1) ++ l.drop (l.length - 1) := (List.take_append_drop _ _).symm
  have h3 : l.drop (l.length - 1) = [x] := by
    rw [List.drop_eq_getElem_cons hlt, h2, List.drop_eq_nil_of_le (by omega)]
  rw [h3] at this
  exact this.symm

/-- trimmed leaves zeros out -/
theorem trimmed_spec (l : List Int) (hd : Dig l) (hlen : l.length ≤ 1000000) : ∃ r, staff_nat_trimmed l = some r ∧ nv r = nv l ∧ Dig r ∧ Trm r ∧ r.length ≤ l.length := by
  unfold staff_nat_trimmed
  obtain ⟨r, hr, t, rfl, h1, h2, h3, h4⟩ := whileB_spec (R := List Int) (body := fun s12 => Option.bind (if (decide ((0 : Int) < (s12.length : Int))) = true then (Option.bind (idx s12 (w64 ((s12.length : Int) - 1))) fun x25 => some (x25 == 0)) else (some false)) fun s24 => if s24 = true then Option.bind (sliceL s12 none (some (w64 ((s12.length : Int) - 1)))) fun x30 => some (.nx x30) else some (.bk s12))
    (fun s => nv s = nv l ∧ Dig s ∧ s.length ≤ l.length) (fun s => s.length) (fun r => ∃ t, r = .fin t ∧ nv t = nv l ∧ Dig t ∧ Trm t ∧ t.length ≤ l.length) (s := l) ⟨rfl, hd, Nat.le_refl _⟩
    (by
      rintro s ⟨h1, h2, h3⟩
      by_cases h0 : 0 < s.length
      · have e1 : decide ((0 : Int) < (s.length : Int)) = true := by simp; omega
        have hw : w64 ((s.length : Int) - 1) = ((s.length - 1 : Nat) : Int) := by rw [w64_id (by omega) (by omega)]; omega
        have hk : s[s.length - 1]? = some s[s.length - 1] := List.getElem?_eq_getElem (by omega)
        have htl := take_last hk
        simp only [e1, if_true, hw, idx_nat, hk, Option.bind_some]
        generalize s[s.length - 1] = x at hk htl
        by_cases hx : x = 0
        · subst hx
          have hs : sliceL s none (some ((s.length - 1 : Nat) : Int)) = some (s.take (s.length - 1)) := by
            unfold sliceL bounds
            simp
          simp only [beq_self_eq_true, if_true, hs, Option.bind_some]
          refine ⟨_, rfl, ⟨?_, fun y hy => h2 y (List.mem_of_mem_take hy), by rw [List.length_take]; omega⟩, by rw [List.length_take]; omega⟩
          have := nv_append (s.take (s.length - 1)) [0]
          rw [htl] at this
          rw [← h1, this]
          simp [nv]
        · have e2 : (x == 0) = false := by simpa using hx
          simp only [e2, Bool.false_eq_true, if_false]
          refine ⟨_, rfl, _, rfl, h1, h2, ?_, h3⟩
          intro h
          rw [List.getLast?_eq_getElem?, hk] at h
          exact hx (Option.some.inj h)
      · have e1 : decide ((0 : Int) < (s.length : Int)) = false := by rw [decide_eq_false_iff_not]; omega
        simp only [e1, Bool.false_eq_true, if_false, Option.bind_some]
        refine ⟨_, rfl, _, rfl, h1, h2, ?_, h3⟩
        have hz : s.length = 0 := by omega
        obtain rfl : s = [] := List.length_eq_zero_iff.1 hz
        intro h
        simp at h)
  exact ⟨t, by rw [hr]; rfl, h1, h2, h3, h4⟩

theorem div_parts (m : Int) (h : 0 ≤ m) : 0 ≤ Int.tmod m 1000000000 ∧ Int.tmod m 1000000000 < 1000000000 ∧ 0 ≤ Int.tdiv m 1000000000 ∧ 1000000000 * Int.tdiv m 1000000000 + Int.tmod m 1000000000 = m := by
  obtain ⟨h1, h2, _⟩ := tdiv_spec m 1000000000 (by decide)
  obtain ⟨h3, h4, h5, _⟩ := h2 h
  exact ⟨h4, h5, h3, h1⟩

theorem take_set_succ {l : List Int} {k : Nat} {x : Int} (hk : k < l.length) : (l.set k x).take (k + 1) = l.take k ++ [x] := by
  apply List.ext_getElem?
  intro j
  rw [List.getElem?_take, List.getElem?_append]
  by_cases h1 : j < k
  · simp only [show j < k + 1 by omega, if_true, List.length_take, Nat.min_eq_left (Nat.le_of_lt hk), h1]
    rw [List.getElem?_set_ne (by omega), List.getElem?_take, if_pos h1]
  · by_cases h2 : j = k
    · subst h2
      simp [hk, Nat.min_eq_left (Nat.le_of_lt hk)]
    · simp only [show ¬ j < k + 1 by omega, if_false, List.length_take, Nat.min_eq_left (Nat.le_of_lt hk), h1]
      rw [List.getElem?_eq_none (by simp; omega)]

/-- small multiplies by a number below base -/
theorem small_spec (a : List Int) (n : Int) (hd : Dig a) (hn : 0 ≤ n ∧ n < 1000000000) (hlen : a.length ≤ 100000) : ∃ r, staff_nat_small a n = some r ∧ nv r = n * nv a ∧ Dig r ∧ Trm r ∧ r.length ≤ a.length + 1 := by
  unfold staff_nat_small
  have hw : w64 ((a.length : Int) + 1) = ((a.length + 1 : Nat) : Int) := by rw [w64_id (by omega) (by omega)]; omega
  have hmk : makeL 35184372088832 (w64 ((a.length : Int) + 1)) (0 : Int) = some (List.replicate (a.length + 1) 0) := by
    rw [hw]
    unfold makeL
    rw [if_pos (by omega), Int.toNat_natCast]
  rw [hmk]
  simp only [Option.bind_some]
  obtain ⟨t, ht, h1, h2, h3, h4, h5⟩ := rangeB_inv (R := List Int) (b := fun k12 s20 => Option.bind (idx a (k12 : Int)) fun x35 => Option.bind (idx s20.1 (k12 : Int)) fun x39 => Option.bind (setI s20.1 (k12 : Int) (Int.tmod (w64 ((w64 (x35 * n)) + s20.2)) 1000000000)) fun x44 => some (.nx (x44, w64 (Int.tdiv (w64 ((w64 (x35 * n)) + s20.2)) 1000000000))))
    a.length (fun k s => s.1.length = a.length + 1 ∧ Dig s.1 ∧ (0 ≤ s.2 ∧ s.2 < 1000000000) ∧ nv s.1 + bp k * s.2 = n * nv (a.take k) ∧ ∀ j, k ≤ j → j < a.length + 1 → s.1[j]? = some 0)
    (s := (List.replicate (a.length + 1) 0, 0)) ⟨by simp, Dig.zeros _, ⟨Int.le_refl _, by show (0 : Int) < 1000000000; decide⟩, by simp [nv_zeros, nv], fun j _ hj => by simp [hj]⟩
    (by
      rintro k ⟨s, c⟩ hk ⟨h1, h2, h3, h4, h5⟩
      dsimp only at h1 h2 h3 h4 h5
      have ha : a[k]? = some a[k] := List.getElem?_eq_getElem hk
      have hs := h5 k (Nat.le_refl _) (by omega)
      have hx := hd.at ha
      have htk : a.take (k + 1) = a.take k ++ [a[k]] := by rw [List.take_add_one, ha]; rfl
      rw [htk]
      simp only [idx_nat, ha, hs, Option.bind_some]
      generalize a[k] = x at ha hx
      have hxn : 0 ≤ x * n ∧ x * n ≤ 999999999 * 999999999 := ⟨Int.mul_nonneg hx.1 hn.1, Int.mul_le_mul (by omega) (by omega) hn.1 (by decide)⟩
      have w1 : w64 (x * n) = x * n := w64_id (by omega) (by omega)
      have w2 : w64 (x * n + c) = x * n + c := w64_id (by omega) (by omega)
      obtain ⟨q1, q2, q3, q4⟩ := div_parts (x * n + c) (by omega)
      have w3 : w64 (Int.tdiv (x * n + c) 1000000000) = Int.tdiv (x * n + c) 1000000000 := w64_id (by omega) (by omega)
      rw [w1, w2, w3, setI_at' _ (by omega)]
      refine ⟨_, rfl, by simpa using h1, h2.set k ⟨q1, q2⟩, ⟨q3, by show Int.tdiv (x * n + c) 1000000000 < 1000000000; omega⟩, ?_, fun j hj hj2 => ?_⟩
      · show nv (s.set k (Int.tmod (x * n + c) 1000000000)) + bp (k + 1) * Int.tdiv (x * n + c) 1000000000 = n * nv (a.take k ++ [x])
        rw [nv_set s k _ 0 hs, nv_append, Int.mul_add, ← h4]
        have e1 : (a.take k).length = k := by rw [List.length_take]; omega
        rw [e1]
        simp only [nv, bp]
        have e2 : n * (bp k * (x + 1000000000 * 0)) = bp k * (x * n) := by
          rw [Int.mul_zero, Int.add_zero, Int.mul_left_comm, Int.mul_comm n x]
        rw [e2]
        have e3 : bp k * (x * n + c) = bp k * (1000000000 * Int.tdiv (x * n + c) 1000000000 + Int.tmod (x * n + c) 1000000000) := by rw [q4]
        rw [Int.mul_add, Int.mul_add] at e3
        have e4 : 1000000000 * bp k * Int.tdiv (x * n + c) 1000000000 = bp k * (1000000000 * Int.tdiv (x * n + c) 1000000000) := by rw [Int.mul_comm 1000000000 (bp k), Int.mul_assoc]
        rw [e4, Int.sub_zero]
        omega
      · show (s.set k _)[j]? = some 0
        rw [List.getElem?_set_ne (by omega)]
        exact h5 j (by omega) hj2)
  obtain ⟨s, c⟩ := t
  dsimp only at h1 h2 h3 h4 h5
  rw [ht]
  simp only [Option.bind_some, Lp.andThen_fin]
  have hs := h5 a.length (Nat.le_refl _) (by omega)
  rw [idx_nat, hs, setI_at' _ (by omega)]
  simp only [Option.bind_some]
  obtain ⟨r, r1, r2, r3, r4, r5⟩ := trimmed_spec (s.set a.length c) (h2.set _ h3) (by simp; omega)
  rw [r1]
  refine ⟨r, rfl, ?_, r3, r4, by simpa [h1] using r5⟩
  rw [r2, nv_set s _ _ 0 hs, Int.sub_zero, h4, List.take_length]
end Go.Proofs.YtcehkbhloaeflaaDoor.M
