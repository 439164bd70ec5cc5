/-
  Numbers in parts of 32 bits (portref2.whole): what the operations compute.
-/
import Derived.Test.YtnnbhehaplphiaaGreatDoorRatioSumsBigA
namespace Go.Proofs.YtnnbhehaplphiaaGreatDoor.M
open Go Go.Pu
set_option linter.unusedSimpArgs false
set_option linter.unusedVariables false

def wv : List UInt32 → Int
  | [] => 0
  | x :: l => (x.toNat : Int) + 4294967296 * wv l
def TrmW (l : List UInt32) : Prop := l.getLast? ≠ some 0
def cp : Nat → Int
  | 0 => 1
  | k + 1 => 4294967296 * cp k

theorem u32_rng (x : UInt32) : 0 ≤ (x.toNat : Int) ∧ (x.toNat : Int) < 4294967296 := by have := x.toNat_lt; omega
theorem toU32_mod (x : Int) : ((toU32 x).toNat : Int) = x % 4294967296 := by
  rw [toU32_nat]
  simp only [IntKind.wrap, IntKind.bits, IntKind.signed]
  simp
theorem shr_u64 {m : Int} (h : 0 ≤ m) : shr .u64 m 32 = some (m / 4294967296) := by
  unfold shr
  rw [if_neg (by decide)]
  congr 1
  rw [Int.fdiv_eq_ediv_of_nonneg _ (by decide)]
  rfl
theorem u32_ext {x y : UInt32} (h : (x.toNat : Int) = (y.toNat : Int)) : x = y := UInt32.toNat_inj.1 (by omega)

theorem cp_pos : ∀ k, 0 < cp k
  | 0 => by decide
  | k + 1 => by have := cp_pos k; simp only [cp]; omega
theorem cp_add (i j : Nat) : cp (i + j) = cp i * cp j := by
  induction i with
  | zero => simp [cp]
  | succ i ih => rw [Nat.succ_add, cp, ih, cp, Int.mul_assoc]
theorem cp_mono {i j : Nat} (h : i ≤ j) : cp i ≤ cp j := by
  obtain ⟨k, rfl⟩ := Nat.exists_eq_add_of_le h
  rw [cp_add]
  have h1 := cp_pos i
  have h2 := cp_pos k
  have := Int.mul_le_mul_of_nonneg_left (show (1 : Int) ≤ cp k by omega) (Int.le_of_lt h1)
  omega
theorem wv_append (l m : List UInt32) : wv (l ++ m) = wv l + cp l.length * wv m := by
  induction l with
  | nil => simp [wv, cp]
  | cons x l ih =>
    simp only [List.cons_append, wv, ih, List.length_cons, cp]
    rw [Int.mul_add, ← Int.mul_assoc, Int.add_assoc]
theorem wv_zeros (n : Nat) : wv (List.replicate n 0) = 0 := by
  induction n with
  | zero => rfl
  | succ n ih => rw [List.replicate_succ, wv, ih]; rfl
theorem wv_nonneg : ∀ (l : List UInt32), 0 ≤ wv l
  | [] => Int.le_refl _
  | x :: l => by
    have h1 := wv_nonneg l
    have h2 := u32_rng x
    simp only [wv]
    omega
theorem wv_lt : ∀ (l : List UInt32), wv l < cp l.length
  | [] => by decide
  | x :: l => by
    have h1 := wv_lt l
    have h2 := u32_rng x
    simp only [wv, List.length_cons, cp]
    omega
theorem wv_set : ∀ (l : List UInt32) (k : Nat) (x y : UInt32), l[k]? = some y → wv (l.set k x) = wv l + cp k * ((x.toNat : Int) - (y.toNat : Int))
  | [], _, _, _, h => by simp at h
  | z :: l, 0, x, y, h => by
    simp at h
    subst h
    simp only [List.set_cons_zero, wv, cp]
    omega
  | z :: l, k + 1, x, y, h => by
    simp at h
    simp only [List.set_cons_succ, wv, cp, wv_set l k x y h, Int.mul_add, ← Int.mul_assoc]
    omega
theorem setW_at {l : List UInt32} {k : Nat} (x : UInt32) (h : k < l.length) : setI l (k : Int) x = some (l.set k x) := by
  unfold setI
  rw [if_pos (by omega), Int.toNat_natCast]
theorem takeW_last {l : List UInt32} {x : UInt32} (h : l[l.length - 1]? = some x) : l.take (l.length - 1) ++ [x] = l := by
  have hlt := (List.getElem?_eq_some_iff.1 h).1
  obtain ⟨_, h2⟩ := List.getElem?_eq_some_iff.1 h
  have : l = l.take (l.length - 1) ++ l.drop (l.length - 1) := (List.take_append_drop _ _).symm
  have h3 : l.drop (l.length - 1) = [x] := by
    rw [List.drop_eq_getElem_cons hlt, h2, List.drop_eq_nil_of_le (by omega)]
  rw [h3] at this
  exact this.symm
theorem takeW_succ {l : List UInt32} {k : Nat} {x : UInt32} (h : l[k]? = some x) : l.take (k + 1) = l.take k ++ [x] := by
  rw [List.take_add_one, h]; rfl
theorem wv_take_succ {l : List UInt32} {k : Nat} {x : UInt32} (h : l[k]? = some x) : wv (l.take (k + 1)) = wv (l.take k) + cp k * (x.toNat : Int) := by
  have hlt := (List.getElem?_eq_some_iff.1 h).1
  rw [takeW_succ h, wv_append, List.length_take, Nat.min_eq_left (Nat.le_of_lt hlt)]
  simp [wv]
theorem wv_split {l : List UInt32} {k : Nat} {x : UInt32} (h : l[k]? = some x) : wv l = wv (l.take k) + cp k * ((x.toNat : Int) + 4294967296 * wv (l.drop (k + 1))) := by
  have hlt := (List.getElem?_eq_some_iff.1 h).1
  obtain ⟨_, h2⟩ := List.getElem?_eq_some_iff.1 h
  have h3 : l = l.take k ++ (x :: l.drop (k + 1)) := by
    rw [← h2, ← List.drop_eq_getElem_cons hlt, List.take_append_drop]
  conv => lhs; rw [h3]
  rw [wv_append, List.length_take, Nat.min_eq_left (Nat.le_of_lt hlt)]
  rfl
theorem wv_ge {l : List UInt32} (ht : TrmW l) (h0 : 0 < l.length) : cp (l.length - 1) ≤ wv l := by
  have hk : l[l.length - 1]? = some l[l.length - 1] := List.getElem?_eq_getElem (by omega)
  have htl := takeW_last hk
  have hne : l[l.length - 1] ≠ 0 := fun h => ht (by rw [List.getLast?_eq_getElem?, hk, h])
  generalize l[l.length - 1] = x at hk htl hne
  have hx := u32_rng x
  have hx0 : (x.toNat : Int) ≠ 0 := fun h => hne (u32_ext (by simpa using h))
  have h1 := wv_append (l.take (l.length - 1)) [x]
  rw [htl] at h1
  have h2 := wv_nonneg (l.take (l.length - 1))
  have e : (l.take (l.length - 1)).length = l.length - 1 := by rw [List.length_take]; omega
  rw [e] at h1
  simp only [wv] at h1
  have h3 := Int.mul_le_mul_of_nonneg_left (show (1 : Int) ≤ (x.toNat : Int) + 4294967296 * 0 by omega) (Int.le_of_lt (cp_pos (l.length - 1)))
  omega
theorem wv_high {l : List UInt32} {k : Nat} (h : wv l < cp k) : ∀ j, k ≤ j → j < l.length → l[j]? = some 0 := by
  intro j hj hl
  have hk : l[j]? = some l[j] := List.getElem?_eq_getElem hl
  rw [hk]
  generalize l[j] = x at hk
  have hx := u32_rng x
  by_cases h0 : (x.toNat : Int) = 0
  · rw [u32_ext (x := x) (y := 0) (by simpa using h0)]
  · have h1 := wv_split hk
    have h2 := wv_nonneg (l.take j)
    have h3 := wv_nonneg (l.drop (j + 1))
    have h4 := Int.mul_le_mul_of_nonneg_left (show (1 : Int) ≤ (x.toNat : Int) + 4294967296 * wv (l.drop (j + 1)) by omega) (Int.le_of_lt (cp_pos j))
    have h5 := cp_mono hj
    omega
/-- one part: what stays, what is carried -/
theorem part_step {out : List UInt32} {j : Nat} {d : UInt32} {m v : Int} (hd : out[j]? = some d) (hm : 0 ≤ m) (hv : wv out + cp j * (m - (d.toNat : Int)) = v) : wv (out.set j (toU32 m)) + cp (j + 1) * (m / 4294967296) = v := by
  rw [wv_set out j _ d hd, toU32_mod]
  have e : cp (j + 1) * (m / 4294967296) = cp j * (4294967296 * (m / 4294967296)) := by rw [cp, Int.mul_comm 4294967296 (cp j), Int.mul_assoc]
  rw [e, ← hv]
  have : cp j * (m % 4294967296 - (d.toNat : Int)) + cp j * (4294967296 * (m / 4294967296)) = cp j * (m - (d.toNat : Int)) := by
    rw [← Int.mul_add]
    congr 1
    omega
  omega

theorem trim_spec (l : List UInt32) (hlen : l.length ≤ 1000000) : ∃ r, portref2_whole_trim l = some r ∧ wv r = wv l ∧ TrmW r ∧ r.length ≤ l.length := by
  unfold portref2_whole_trim
  obtain ⟨r, hr, t, rfl, h1, h2, h3⟩ := whileB_spec (R := List UInt32) (body := fun s12 => Option.bind (if (decide ((0 : Int) < (s12.length : Int))) = true then (Option.bind (idx s12 (w64 ((s12.length : Int) - 1))) fun x25 => some ((x25.toNat : Int) == 0)) else (some false)) fun s24 => if s24 = true then Option.bind (sliceL s12 none (some (w64 ((s12.length : Int) - 1)))) fun x30 => some (.nx x30) else some (.bk s12))
    (fun s => wv s = wv l ∧ s.length ≤ l.length) (fun s => s.length) (fun r => ∃ t, r = .fin t ∧ wv t = wv l ∧ TrmW t ∧ t.length ≤ l.length) (s := l) ⟨rfl, Nat.le_refl _⟩
    (by
      rintro s ⟨h1, h3⟩
      by_cases h0 : 0 < s.length
      · have e1 : decide ((0 : Int) < (s.length : Int)) = true := by rw [decide_eq_true_eq]; omega
        have hw : w64 ((s.length : Int) - 1) = ((s.length - 1 : Nat) : Int) := by rw [w64_id (by omega) (by omega)]; omega
        have hk : s[s.length - 1]? = some s[s.length - 1] := List.getElem?_eq_getElem (by omega)
        have htl := takeW_last hk
        simp only [e1, if_true, hw, idx_nat, hk, Option.bind_some]
        generalize s[s.length - 1] = x at hk htl
        by_cases hx : (x.toNat : Int) = 0
        · have hs : sliceL s none (some ((s.length - 1 : Nat) : Int)) = some (s.take (s.length - 1)) := by
            unfold sliceL bounds
            simp
          have e2 : ((x.toNat : Int) == 0) = true := by rw [hx]; rfl
          simp only [e2, if_true, hs, Option.bind_some]
          refine ⟨_, rfl, ⟨?_, by rw [List.length_take]; omega⟩, by rw [List.length_take]; omega⟩
          have := wv_append (s.take (s.length - 1)) [x]
          rw [htl] at this
          rw [← h1, this]
          simp only [wv, hx]
          omega
        · have e2 : ((x.toNat : Int) == 0) = false := by rw [beq_eq_false_iff_ne]; exact hx
          simp only [e2, Bool.false_eq_true, if_false]
          refine ⟨_, rfl, _, rfl, h1, ?_, h3⟩
          intro h
          rw [List.getLast?_eq_getElem?, hk] at h
          exact hx (by rw [Option.some.inj h]; rfl)
      · have e1 : decide ((0 : Int) < (s.length : Int)) = false := by rw [decide_eq_false_iff_not]; omega
        simp only [e1, Bool.false_eq_true, if_false, Option.bind_some]
        refine ⟨_, rfl, _, rfl, h1, ?_, h3⟩
        have hz : s.length = 0 := by omega
        obtain rfl : s = [] := List.length_eq_zero_iff.1 hz
        intro h
        simp at h)
  exact ⟨t, by rw [hr]; rfl, h1, h2, h3⟩

theorem cmp_spec (a b : List UInt32) (ta : TrmW a) (tb : TrmW b) (la : a.length ≤ 1000000) (lb : b.length ≤ 1000000) : portref2_whole_cmp a b = some (sgn (wv a) (wv b)) := by
  unfold portref2_whole_cmp
  by_cases hl : a.length = b.length
  · have e1 : ((a.length : Int) != (b.length : Int)) = false := by simp [hl]
    simp only [e1, Bool.false_eq_true, if_false]
    have hw0 : w64 ((a.length : Int) - 1) = (a.length : Int) - 1 := w64_id (by omega) (by omega)
    rw [hw0]
    obtain ⟨r, hr, hq⟩ := whileB_spec (R := Int) (body := fun s16 => if (decide ((0 : Int) ≤ s16)) = true then Option.bind (idx a s16) fun x28 => Option.bind (idx b s16) fun x32 => if ((x28.toNat : Int) != (x32.toNat : Int)) = true then if (decide ((x28.toNat : Int) < (x32.toNat : Int))) = true then some (.rt (-1)) else some (.rt 1) else some (.nx (w64 (s16 - 1))) else some (.bk s16))
      (fun s => ∃ k : Nat, s = (k : Int) - 1 ∧ k ≤ a.length ∧ a.drop k = b.drop k) (fun s => (s + 1).toNat)
      (fun r => (∃ t, r = .fin t ∧ a = b) ∨ r = .rt (sgn (wv a) (wv b))) (s := (a.length : Int) - 1)
      ⟨a.length, rfl, Nat.le_refl _, by rw [List.drop_length, hl, List.drop_length]⟩
      (by
        rintro _ ⟨k, rfl, hk, hd⟩
        cases k with
        | zero => exact ⟨.bk ((0 : Nat) - 1 : Int), rfl, .inl ⟨_, rfl, by simpa using hd⟩⟩
        | succ k =>
          have e2 : ((k + 1 : Nat) : Int) - 1 = (k : Int) := by omega
          have e3 : decide ((0 : Int) ≤ (k : Int)) = true := by simp
          have hw : w64 ((k : Int) - 1) = (k : Int) - 1 := w64_id (by omega) (by omega)
          have hka : a[k]? = some a[k] := List.getElem?_eq_getElem (by omega)
          have hkb : b[k]? = some b[k] := List.getElem?_eq_getElem (by omega)
          have da : a.drop k = a[k] :: a.drop (k + 1) := List.drop_eq_getElem_cons (by omega)
          have db : b.drop k = b[k] :: b.drop (k + 1) := List.drop_eq_getElem_cons (by omega)
          rw [e2]
          simp only [e3, if_true, idx_nat, hka, hkb, Option.bind_some, hw]
          generalize a[k] = x at hka da
          generalize b[k] = y at hkb db
          by_cases hxy : (x.toNat : Int) = (y.toNat : Int)
          · have hxe := u32_ext hxy
            subst hxe
            simp only [bne_self_eq_false, Bool.false_eq_true, if_false]
            exact ⟨_, rfl, ⟨k, rfl, by omega, by rw [da, db, hd]⟩, by omega⟩
          · have e4 : ((x.toNat : Int) != (y.toNat : Int)) = true := by rw [bne_iff_ne]; exact hxy
            simp only [e4, if_true]
            have sa := wv_split hka
            have sb := wv_split hkb
            rw [hd] at sa
            have n1 := wv_nonneg (a.take k)
            have n2 := wv_lt (a.take k)
            have n3 := wv_nonneg (b.take k)
            have n4 := wv_lt (b.take k)
            have e5 : (a.take k).length = k := by rw [List.length_take]; omega
            have e6 : (b.take k).length = k := by rw [List.length_take]; omega
            rw [e5] at n2
            rw [e6] at n4
            rw [Int.mul_add] at sa sb
            by_cases hlt : (x.toNat : Int) < (y.toNat : Int)
            · have h7 := Int.mul_le_mul_of_nonneg_left (show (x.toNat : Int) + 1 ≤ (y.toNat : Int) by omega) (Int.le_of_lt (cp_pos k))
              rw [Int.mul_add] at h7
              simp only [hlt, decide_true, if_true]
              refine ⟨_, rfl, .inr ?_⟩
              unfold sgn
              rw [if_pos (by omega)]
            · have h7 := Int.mul_le_mul_of_nonneg_left (show (y.toNat : Int) + 1 ≤ (x.toNat : Int) by omega) (Int.le_of_lt (cp_pos k))
              rw [Int.mul_add] at h7
              simp only [hlt, decide_false, Bool.false_eq_true, if_false]
              refine ⟨_, rfl, .inr ?_⟩
              unfold sgn
              rw [if_neg (by omega), if_neg (by omega)])
    rw [hr]
    rcases hq with ⟨t, rfl, rfl⟩ | rfl
    · simp [sgn, Lp.andThen]
    · rfl
  · have e1 : ((a.length : Int) != (b.length : Int)) = true := by rw [bne_iff_ne]; omega
    simp only [e1, if_true]
    have na := wv_lt a
    have nb := wv_lt b
    by_cases h : a.length < b.length
    · have e2 : decide ((a.length : Int) < (b.length : Int)) = true := by rw [decide_eq_true_eq]; omega
      have h2 := wv_ge tb (by omega)
      have h3 := cp_mono (show a.length ≤ b.length - 1 by omega)
      simp only [e2, if_true]
      unfold sgn
      rw [if_pos (by omega)]
    · have e2 : decide ((a.length : Int) < (b.length : Int)) = false := by rw [decide_eq_false_iff_not]; omega
      have h2 := wv_ge ta (by omega)
      have h3 := cp_mono (show b.length ≤ a.length - 1 by omega)
      simp only [e2, Bool.false_eq_true, if_false]
      unfold sgn
      rw [if_neg (by omega), if_neg (by omega)]

theorem w64u (x : UInt32) : IntKind.u64.wrap (x.toNat : Int) = (x.toNat : Int) := by have := u32_rng x; exact wrapU64_id (by omega) (by omega)

/-- the longer one first -/
theorem wplus_long (a b : List UInt32) (hl : b.length ≤ a.length) (la : a.length ≤ 100000) :
    ∃ r, (Option.bind (makeC 70368744177664 0 (w64 ((a.length : Int) + 1)) (0 : UInt32)) fun x18 =>
      Option.bind (rangeB (R := List UInt32) (fun k27 s35 => Option.bind (idx a (k27 : Int)) fun x50 => Option.bind (if (decide ((k27 : Int) < (b.length : Int))) = true then Option.bind (idx b (k27 : Int)) fun x61 => some (IntKind.wrap .u64 ((IntKind.wrap .u64 (s35.2 + (IntKind.wrap .u64 (x50.toNat : Int)))) + (IntKind.wrap .u64 (x61.toNat : Int)))) else some (IntKind.wrap .u64 (s35.2 + (IntKind.wrap .u64 (x50.toNat : Int))))) fun s55 => Option.bind (appendL 35184372088832 s35.1 ([(toU32 s55)] : List UInt32)) fun x72 => Option.bind (shr .u64 s55 32) fun x78 => some (.nx (x72, x78))) a.length 0 (x18, 0)) fun o24 => o24.andThen (fun y => some y) fun s25 =>
      Option.bind (appendL 35184372088832 s25.1 ([(toU32 s25.2)] : List UInt32)) fun x87 =>
      Option.bind (portref2_whole_trim x87) fun x98 =>
      some x98) = some r ∧ wv r = wv a + wv b ∧ TrmW r ∧ r.length ≤ a.length + 1 := by
  have hmk : makeC 70368744177664 0 (w64 ((a.length : Int) + 1)) (0 : UInt32) = some [] := by
    rw [w64_id (by omega) (by omega)]
    unfold makeC
    rw [if_pos (by omega)]
    rfl
  rw [hmk]
  simp only [Option.bind_some]
  obtain ⟨t, ht, h1, h2, h3⟩ := rangeB_inv (R := List UInt32) (b := fun k27 s35 => Option.bind (idx a (k27 : Int)) fun x50 => Option.bind (if (decide ((k27 : Int) < (b.length : Int))) = true then Option.bind (idx b (k27 : Int)) fun x61 => some (IntKind.wrap .u64 ((IntKind.wrap .u64 (s35.2 + (IntKind.wrap .u64 (x50.toNat : Int)))) + (IntKind.wrap .u64 (x61.toNat : Int)))) else some (IntKind.wrap .u64 (s35.2 + (IntKind.wrap .u64 (x50.toNat : Int))))) fun s55 => Option.bind (appendL 35184372088832 s35.1 ([(toU32 s55)] : List UInt32)) fun x72 => Option.bind (shr .u64 s55 32) fun x78 => some (.nx (x72, x78)))
    a.length (fun k s => s.1.length = k ∧ (0 ≤ s.2 ∧ s.2 ≤ 1) ∧ wv s.1 + cp k * s.2 = wv (a.take k) + wv (b.take k)) (s := ([], 0)) ⟨rfl, by simp, by simp [wv]⟩
    (by
      rintro k ⟨s, c⟩ hk ⟨h1, h2, h3⟩
      dsimp only at h1 h2 h3
      have hak : a[k]? = some a[k] := List.getElem?_eq_getElem hk
      have hta := wv_take_succ hak
      simp only [idx_nat, hak, Option.bind_some, w64u]
      generalize a[k] = x at hak hta
      have hx := u32_rng x
      have w1 : IntKind.u64.wrap (c + (x.toNat : Int)) = c + (x.toNat : Int) := wrapU64_id (by omega) (by omega)
      rw [w1]
      have fin : ∀ y : Int, 0 ≤ y → y < 4294967296 → wv (b.take (k + 1)) = wv (b.take k) + cp k * y → ∃ t : List UInt32 × Int, (Option.bind (appendL 35184372088832 s ([(toU32 (c + (x.toNat : Int) + y))] : List UInt32)) fun x72 => Option.bind (shr .u64 (c + (x.toNat : Int) + y) 32) fun x78 => some (Ctl.nx (R := List UInt32) (x72, x78))) = some (.nx t) ∧ t.1.length = k + 1 ∧ (0 ≤ t.2 ∧ t.2 ≤ 1) ∧ wv t.1 + cp (k + 1) * t.2 = wv (a.take (k + 1)) + wv (b.take (k + 1)) := by
        intro y y0 y1 hy
        have happ : appendL 35184372088832 s [toU32 (c + (x.toNat : Int) + y)] = some (s ++ [toU32 (c + (x.toNat : Int) + y)]) := by
          unfold appendL
          rw [if_pos (by simp; omega)]
        rw [happ, shr_u64 (by omega)]
        refine ⟨_, rfl, by simp [h1], ⟨by show 0 ≤ (c + (x.toNat : Int) + y) / 4294967296; omega, by show (c + (x.toNat : Int) + y) / 4294967296 ≤ 1; omega⟩, ?_⟩
        show wv (s ++ [toU32 (c + (x.toNat : Int) + y)]) + cp (k + 1) * ((c + (x.toNat : Int) + y) / 4294967296) = _
        rw [wv_append, h1, hta, hy]
        simp only [wv, toU32_mod, cp, Int.mul_zero, Int.add_zero]
        have e : 4294967296 * cp k * ((c + (x.toNat : Int) + y) / 4294967296) = cp k * (4294967296 * ((c + (x.toNat : Int) + y) / 4294967296)) := by rw [Int.mul_comm 4294967296 (cp k), Int.mul_assoc]
        have e2 : cp k * ((c + (x.toNat : Int) + y) % 4294967296) + cp k * (4294967296 * ((c + (x.toNat : Int) + y) / 4294967296)) = cp k * c + cp k * (x.toNat : Int) + cp k * y := by
          rw [← Int.mul_add, ← Int.mul_add, ← Int.mul_add]
          congr 1
          omega
        rw [e]
        omega
      by_cases hkb : k < b.length
      · have hbk : b[k]? = some b[k] := List.getElem?_eq_getElem hkb
        have e2 : decide ((k : Int) < (b.length : Int)) = true := by rw [decide_eq_true_eq]; omega
        have htb := wv_take_succ hbk
        simp only [e2, if_true, hbk, Option.bind_some, w64u]
        generalize b[k] = y at hbk htb
        have hy := u32_rng y
        have w2 : IntKind.u64.wrap (c + (x.toNat : Int) + (y.toNat : Int)) = c + (x.toNat : Int) + (y.toNat : Int) := wrapU64_id (by omega) (by omega)
        rw [w2]
        exact fin _ hy.1 hy.2 htb
      · have e2 : decide ((k : Int) < (b.length : Int)) = false := by rw [decide_eq_false_iff_not]; omega
        simp only [e2, Bool.false_eq_true, if_false, Option.bind_some]
        have := fin 0 (by omega) (by omega) (by rw [List.take_of_length_le (by omega), List.take_of_length_le (by omega)]; omega)
        rwa [Int.add_zero] at this)
  obtain ⟨s, c⟩ := t
  dsimp only at h1 h2 h3
  rw [ht]
  simp only [Option.bind_some, Lp.andThen_fin]
  have happ : appendL 35184372088832 s [toU32 c] = some (s ++ [toU32 c]) := by
    unfold appendL
    rw [if_pos (by simp; omega)]
  rw [happ]
  simp only [Option.bind_some]
  obtain ⟨r, r1, r2, r3, r4⟩ := trim_spec (s ++ [toU32 c]) (by simp; omega)
  rw [r1]
  refine ⟨r, rfl, ?_, r3, by simp at r4; omega⟩
  rw [r2, wv_append, h1]
  simp only [wv, toU32_mod, Int.mul_zero, Int.add_zero]
  rw [List.take_length, List.take_of_length_le hl] at h3
  have e : c % 4294967296 = c := by omega
  rw [e, h3]

theorem wplus_spec (a b : List UInt32) (la : a.length ≤ 100000) (lb : b.length ≤ 100000) : ∃ r, portref2_whole_plus a b = some r ∧ wv r = wv a + wv b ∧ TrmW r ∧ r.length ≤ max a.length b.length + 1 := by
  unfold portref2_whole_plus
  by_cases h : a.length < b.length
  · have e : decide ((a.length : Int) < (b.length : Int)) = true := by rw [decide_eq_true_eq]; omega
    simp only [e, if_true, Option.bind_some]
    obtain ⟨r, h1, h2, h3, h4⟩ := wplus_long b a (by omega) lb
    exact ⟨r, h1, by omega, h3, by omega⟩
  · have e : decide ((a.length : Int) < (b.length : Int)) = false := by rw [decide_eq_false_iff_not]; omega
    simp only [e, Bool.false_eq_true, if_false, Option.bind_some]
    obtain ⟨r, h1, h2, h3, h4⟩ := wplus_long a b (by omega) la
    exact ⟨r, h1, h2, h3, by omega⟩

/-- the row of one part's product -/
theorem wtimes_row (a b : List UInt32) (la : a.length ≤ 100000) (lb : b.length ≤ 100000) (i : Nat) (x : UInt32) (hx : a[i]? = some x) (out : List UInt32) (ho : out.length = a.length + b.length) (hv : wv out = wv (a.take i) * wv b) :
    ∃ t, rangeB (R := List UInt32) (fun k40 (s48 : List UInt32 × Int) => Option.bind (idx a (i : Int)) fun x63 => Option.bind (idx b (k40 : Int)) fun x67 => Option.bind (idx s48.1 (w64 ((i : Int) + (k40 : Int)))) fun x71 => Option.bind (setI s48.1 (w64 ((i : Int) + (k40 : Int))) (toU32 (IntKind.wrap .u64 (s48.2 + (IntKind.wrap .u64 ((IntKind.wrap .u64 ((IntKind.wrap .u64 (x63.toNat : Int)) * (IntKind.wrap .u64 (x67.toNat : Int)))) + (IntKind.wrap .u64 (x71.toNat : Int)))))))) fun x83 => Option.bind (shr .u64 (IntKind.wrap .u64 (s48.2 + (IntKind.wrap .u64 ((IntKind.wrap .u64 ((IntKind.wrap .u64 (x63.toNat : Int)) * (IntKind.wrap .u64 (x67.toNat : Int)))) + (IntKind.wrap .u64 (x71.toNat : Int)))))) 32) fun x87 => some (.nx (x83, x87))) b.length 0 (out, 0) = some (.fin t) ∧
      t.1.length = a.length + b.length ∧ (0 ≤ t.2 ∧ t.2 < 4294967296) ∧ wv t.1 + cp (i + b.length) * t.2 = wv (a.take (i + 1)) * wv b ∧ t.1[i + b.length]? = some 0 := by
  have hi := (List.getElem?_eq_some_iff.1 hx).1
  have hxd := u32_rng x
  have hlow : wv out < cp (i + b.length) := by
    rw [hv, cp_add]
    have h1 := wv_lt (a.take i)
    have h2 := wv_lt b
    have h3 := wv_nonneg (a.take i)
    have h4 := wv_nonneg b
    have e : (a.take i).length = i := by rw [List.length_take]; omega
    rw [e] at h1
    have h5 := Int.mul_le_mul (show wv (a.take i) ≤ cp i - 1 by omega) (show wv b ≤ cp b.length - 1 by omega) h4 (by have := cp_pos i; omega)
    have h6 := cp_pos i
    have h7 := cp_pos b.length
    have h8 : (cp i - 1) * (cp b.length - 1) < cp i * cp b.length := by
      rw [Int.sub_mul, Int.mul_sub, Int.mul_one, Int.one_mul]
      omega
    omega
  obtain ⟨t, ht, h1, h3, h4, h5⟩ := rangeB_inv (R := List UInt32) (b := fun k40 (s48 : List UInt32 × Int) => Option.bind (idx a (i : Int)) fun x63 => Option.bind (idx b (k40 : Int)) fun x67 => Option.bind (idx s48.1 (w64 ((i : Int) + (k40 : Int)))) fun x71 => Option.bind (setI s48.1 (w64 ((i : Int) + (k40 : Int))) (toU32 (IntKind.wrap .u64 (s48.2 + (IntKind.wrap .u64 ((IntKind.wrap .u64 ((IntKind.wrap .u64 (x63.toNat : Int)) * (IntKind.wrap .u64 (x67.toNat : Int)))) + (IntKind.wrap .u64 (x71.toNat : Int)))))))) fun x83 => Option.bind (shr .u64 (IntKind.wrap .u64 (s48.2 + (IntKind.wrap .u64 ((IntKind.wrap .u64 ((IntKind.wrap .u64 (x63.toNat : Int)) * (IntKind.wrap .u64 (x67.toNat : Int)))) + (IntKind.wrap .u64 (x71.toNat : Int)))))) 32) fun x87 => some (.nx (x83, x87)))
    b.length (fun k s => s.1.length = a.length + b.length ∧ (0 ≤ s.2 ∧ s.2 < 4294967296) ∧ wv s.1 + cp (i + k) * s.2 = wv (a.take i) * wv b + cp i * ((x.toNat : Int) * wv (b.take k)) ∧ s.1[i + b.length]? = some 0)
    (s := (out, 0)) ⟨ho, ⟨Int.le_refl _, by show (0 : Int) < 4294967296; decide⟩, by simp [wv, hv], wv_high hlow _ (Nat.le_refl _) (by omega)⟩
    (by
      rintro k ⟨s, c⟩ hk ⟨h1, h3, h4, h5⟩
      dsimp only at h1 h3 h4 h5
      have hbk : b[k]? = some b[k] := List.getElem?_eq_getElem hk
      have hw : w64 ((i : Int) + (k : Int)) = ((i + k : Nat) : Int) := by rw [w64_id (by omega) (by omega)]; omega
      have hs : s[i + k]? = some s[i + k] := List.getElem?_eq_getElem (by omega)
      simp only [idx_nat, hx, hbk, Option.bind_some, hw, hs, w64u]
      have htk := wv_take_succ hbk
      generalize b[k] = y at hbk htk
      generalize s[i + k] = d at hs
      have hbd := u32_rng y
      have hsd := u32_rng d
      have hxy : 0 ≤ (x.toNat : Int) * (y.toNat : Int) ∧ (x.toNat : Int) * (y.toNat : Int) ≤ 4294967295 * 4294967295 := ⟨Int.mul_nonneg hxd.1 hbd.1, Int.mul_le_mul (by omega) (by omega) hbd.1 (by decide)⟩
      have w1 : IntKind.u64.wrap ((x.toNat : Int) * (y.toNat : Int)) = (x.toNat : Int) * (y.toNat : Int) := wrapU64_id (by omega) (by omega)
      have w2 : IntKind.u64.wrap ((x.toNat : Int) * (y.toNat : Int) + (d.toNat : Int)) = (x.toNat : Int) * (y.toNat : Int) + (d.toNat : Int) := wrapU64_id (by omega) (by omega)
      have w3 : IntKind.u64.wrap (c + ((x.toNat : Int) * (y.toNat : Int) + (d.toNat : Int))) = c + ((x.toNat : Int) * (y.toNat : Int) + (d.toNat : Int)) := wrapU64_id (by omega) (by omega)
      rw [w1, w2, w3, setW_at _ (by omega)]
      simp only [Option.bind_some]
      rw [shr_u64 (by omega)]
      refine ⟨_, rfl, by simpa using h1, ⟨by show 0 ≤ (c + ((x.toNat : Int) * (y.toNat : Int) + (d.toNat : Int))) / 4294967296; omega, by show (c + ((x.toNat : Int) * (y.toNat : Int) + (d.toNat : Int))) / 4294967296 < 4294967296; omega⟩, ?_, ?_⟩
      · show wv (s.set (i + k) (toU32 (c + ((x.toNat : Int) * (y.toNat : Int) + (d.toNat : Int))))) + cp (i + (k + 1)) * ((c + ((x.toNat : Int) * (y.toNat : Int) + (d.toNat : Int))) / 4294967296) = _
        refine part_step hs (by omega) ?_
        rw [htk]
        have e1 : c + ((x.toNat : Int) * (y.toNat : Int) + (d.toNat : Int)) - (d.toNat : Int) = (x.toNat : Int) * (y.toNat : Int) + c := by omega
        rw [e1, Int.mul_add, Int.mul_add, Int.mul_add]
        have e2 : cp i * ((x.toNat : Int) * (cp k * (y.toNat : Int))) = cp (i + k) * ((x.toNat : Int) * (y.toNat : Int)) := by
          rw [cp_add, Int.mul_assoc, Int.mul_left_comm (x.toNat : Int) (cp k) (y.toNat : Int)]
        rw [e2]
        omega
      · show (s.set (i + k) _)[i + b.length]? = some 0
        rw [List.getElem?_set_ne (by omega)]
        exact h5)
  refine ⟨t, ht, h1, h3, ?_, h5⟩
  rw [h4, List.take_length, wv_take_succ hx, Int.add_mul, Int.mul_assoc]

theorem wtimes_spec (a b : List UInt32) (la : a.length ≤ 100000) (lb : b.length ≤ 100000) : ∃ r, portref2_whole_times a b = some r ∧ wv r = wv a * wv b ∧ TrmW r ∧ r.length ≤ a.length + b.length := by
  unfold portref2_whole_times
  have hw : w64 ((a.length : Int) + (b.length : Int)) = ((a.length + b.length : Nat) : Int) := by rw [w64_id (by omega) (by omega)]; omega
  have hmk : makeL 70368744177664 (w64 ((a.length : Int) + (b.length : Int))) (0 : UInt32) = some (List.replicate (a.length + b.length) 0) := by
    rw [hw]
    unfold makeL
    rw [if_pos (by omega), Int.toNat_natCast]
  rw [hmk]
  simp only [Option.bind_some]
  obtain ⟨t, ht, h1, h3⟩ := rangeB_inv (R := List UInt32) (b := fun k14 s22 => Option.bind (rangeB (R := List UInt32) (fun k40 s48 => Option.bind (idx a (k14 : Int)) fun x63 => Option.bind (idx b (k40 : Int)) fun x67 => Option.bind (idx s48.1 (w64 ((k14 : Int) + (k40 : Int)))) fun x71 => Option.bind (setI s48.1 (w64 ((k14 : Int) + (k40 : Int))) (toU32 (IntKind.wrap .u64 (s48.2 + (IntKind.wrap .u64 ((IntKind.wrap .u64 ((IntKind.wrap .u64 (x63.toNat : Int)) * (IntKind.wrap .u64 (x67.toNat : Int)))) + (IntKind.wrap .u64 (x71.toNat : Int)))))))) fun x83 => Option.bind (shr .u64 (IntKind.wrap .u64 (s48.2 + (IntKind.wrap .u64 ((IntKind.wrap .u64 ((IntKind.wrap .u64 (x63.toNat : Int)) * (IntKind.wrap .u64 (x67.toNat : Int)))) + (IntKind.wrap .u64 (x71.toNat : Int)))))) 32) fun x87 => some (.nx (x83, x87))) b.length 0 (s22, 0)) fun o37 => o37.andThen (fun y => some (.rt y)) fun s38 => Option.bind (idx s38.1 (w64 ((k14 : Int) + (b.length : Int)))) fun x91 => Option.bind (setI s38.1 (w64 ((k14 : Int) + (b.length : Int))) (toU32 s38.2)) fun x96 => some (.nx x96))
    a.length (fun k s => s.length = a.length + b.length ∧ wv s = wv (a.take k) * wv b) (s := List.replicate (a.length + b.length) 0) ⟨by simp, by simp [wv_zeros, wv]⟩
    (by
      rintro k s hk ⟨h1, h3⟩
      have hak : a[k]? = some a[k] := List.getElem?_eq_getElem hk
      generalize a[k] = x at hak
      obtain ⟨⟨s1, c⟩, hrow, r1, r3, r4, r5⟩ := wtimes_row a b la lb k x hak s h1 h3
      dsimp only at r1 r3 r4 r5
      have hw2 : w64 ((k : Int) + (b.length : Int)) = ((k + b.length : Nat) : Int) := by rw [w64_id (by omega) (by omega)]; omega
      rw [hrow]
      simp only [Option.bind_some, Lp.andThen_fin, hw2, idx_nat, r5, setW_at _ (show k + b.length < s1.length by omega)]
      refine ⟨_, rfl, by simpa using r1, ?_⟩
      rw [wv_set s1 _ _ 0 r5, toU32_mod]
      have e0 : ((0 : UInt32).toNat : Int) = 0 := rfl
      have e1 : c % 4294967296 = c := by omega
      rw [e0, e1, Int.sub_zero]
      exact r4)
  rw [ht]
  simp only [Option.bind_some, Lp.andThen_fin]
  obtain ⟨r, r1, r2, r3, r4⟩ := trim_spec t (by omega)
  rw [r1]
  refine ⟨r, rfl, ?_, r3, by omega⟩
  rw [r2, h3, List.take_length]
end Go.Proofs.YtnnbhehaplphiaaGreatDoor.M
