/-
  StaffFormulas: the program's answers are the reference's, for all arguments.
-/
import Derived.Test.YtbmbgmeggeemcaaDoorStaffFormulasBigCase
import Derived.Test.YtbmbgmeggeemcaaDoorStaffFormulasBigGcd
import Derived.Test.YtbmbgmeggeemcaaDoorStaffFormulasBigC
namespace Go.Proofs.YtbmbgmeggeemcaaDoor.M
open Go Go.Pu Go.Lib
set_option linter.unusedSimpArgs false
set_option linter.unusedVariables false

/-- a fraction, written on both sides -/
theorem written_both {num den : List Int} {r : portref2_ratio} {L L' : Nat} {p q : Int} (dn : Dig num) (dd : Dig den) (tn : Trm num) (td : Trm den) (ln : num.length ≤ L) (ld : den.length ≤ L) (hL : L ≤ 50000) (vn : nv num = p) (vd : nv den = q) (hp : 0 ≤ p) (hq : 0 < q)
    (hr : FR r L' p q) (hL' : L' ≤ 100000) : ∃ y t, staff_lowest num den = some y ∧ staff_ratio_written y = some t ∧ portref2_ratioOf r = some t := by
  obtain ⟨y, hy, y1, y2, y3, y4, y5, y6, y7, y8, y9⟩ := low10_spec num den L dn dd tn td ln ld hL (by omega)
  rw [vn, vd] at y8
  have hval := hr.val
  have hdp := hr.dpos
  have e : nv y.num * wv r.den = wv r.num * nv y.den := by
    have e1 : q * (nv y.num * wv r.den) = q * (wv r.num * nv y.den) := by
      have a1 : q * (nv y.num * wv r.den) = (nv y.num * q) * wv r.den := by ac_rfl
      have a2 : q * (wv r.num * nv y.den) = (wv r.num * q) * nv y.den := by ac_rfl
      rw [a1, a2, y8, hval]
      ac_rfl
    exact Int.eq_of_mul_eq_mul_left (by omega) e1
  obtain ⟨u1, u2⟩ := low_unique (nv_nonneg y1) (wv_nonneg r.num) y7 hdp e y9 hr.cop
  have t1 := nat_text y.num y1 y3 (by omega)
  have t2 := nat_text y.den y2 y4 (by omega)
  have t3 := whole_text r.num hr.tn (by have := hr.ln; omega)
  have t4 := whole_text r.den hr.td (by have := hr.ld; omega)
  rw [← u1] at t3
  rw [← u2] at t4
  refine ⟨y, (⟨⟨(decDigits (nv y.num).toNat).toArray⟩, ⟨(decDigits (nv y.den).toNat).toArray⟩⟩ : staff_Ratio), hy, ?_, ?_⟩
  · unfold staff_ratio_written
    rw [t1, t2]
    rfl
  · unfold portref2_ratioOf
    rw [t3, t4]
    rfl

theorem fault_cases (l : staff_Load) (n : Int) : (∃ m : Nat, n = (m : Int) ∧ m ≤ 60 ∧ LoadOK l ∧ (Option.bind (staff_checkLoad l) fun x14 => cmp_Or_api_Errno ([x14, (staff_checkPeople n)] : List Int)) = some 0 ∧ portref2_loadFault l n = some 0) ∨
    (∃ e : Int, e ≠ 0 ∧ (Option.bind (staff_checkLoad l) fun x14 => cmp_Or_api_Errno ([x14, (staff_checkPeople n)] : List Int)) = some e ∧ portref2_loadFault l n = some e) := by
  unfold portref2_loadFault
  rcases load_cases l with ⟨hl, e1, e2⟩ | ⟨e1, e2⟩
  · rcases people_cases n with ⟨m, rfl, hm, p1, p2⟩ | ⟨p1, p2⟩
    · left
      refine ⟨m, rfl, hm, hl, ?_, ?_⟩
      · rw [e1]
        simp only [Option.bind_some, or2, p1]
        rfl
      · rw [e2]
        simp [p2]
    · right
      refine ⟨2, by decide, ?_, ?_⟩
      · rw [e1]
        simp only [Option.bind_some, or2, p1]
        rfl
      · rw [e2]
        simp [p2]
  · right
    refine ⟨2, by decide, ?_, ?_⟩
    · rw [e1]
      simp only [Option.bind_some, or2]
      rfl
    · rw [e2]
      rfl

theorem bind2 {α β γ : Type} {x : Option α} {f : α → Option β} {g : β → Option γ} : (Option.bind x fun a => Option.bind (f a) g) = Option.bind (Option.bind x f) g := by cases x <;> rfl

theorem strEq_lit (a b : ByteArray) : strEq a b = decide (a = b) := by
  by_cases h : a = b
  · subst h
    simp [strEq]
  · have h2 : a.toList ≠ b.toList := by
      intro h3
      apply h
      apply ByteArray.ext
      apply Array.ext'
      rw [ByteArray.toList_eq, ByteArray.toList_eq] at h3
      exact h3
    rw [decide_eq_false h]
    simpa [strEq] using h2

theorem offered_eq (l : staff_Load) (n : Int) : ∃ x, staff_Offered l = some x ∧ portref2_FormulaOf (⟨#[111, 102, 102, 101, 114, 101, 100]⟩ : ByteArray) l n = some x := by
  unfold staff_Offered portref2_FormulaOf
  have s1 : strEq (⟨#[111, 102, 102, 101, 114, 101, 100]⟩ : ByteArray) (⟨#[111, 102, 102, 101, 114, 101, 100]⟩ : ByteArray) = true := by rw [strEq_lit]; decide
  simp only [s1, if_true, Option.bind_some]
  unfold portref2_loadFault
  rcases load_cases l with ⟨hl, e1, e2⟩ | ⟨e1, e2⟩
  · have hoff := hl.off
    have hs0 := hl.s0
    have hs1 := hl.s1
    obtain ⟨r, hr, hf⟩ := offered_ref hl
    obtain ⟨a, ha, a1, a2, a3, a4⟩ := natOf_spec (l.calls * l.length) (by omega)
    obtain ⟨b, hb, b1, b2, b3, b4⟩ := natOf_spec l.span (by omega)
    obtain ⟨y, t, h1, h2, h3⟩ := written_both a2 b2 a3 b3 a4 b4 (by decide) a1 b1 hoff.1 (by omega) hf (by decide)
    have c1 : ((decide (l.calls * l.length < 0)) || (decide (l.span < 1))) = false := by
      rw [Bool.or_eq_false_iff, decide_eq_false_iff_not, decide_eq_false_iff_not]
      omega
    have c2 : ((decide ((0 : Int) < 0)) || (decide ((60 : Int) < 0))) = false := by decide
    have c0 : ((0 : Int) != 0) = false := by decide
    refine ⟨(t, 0), ?_, ?_⟩
    · rw [e1]
      simp only [Option.bind_some, c0, Bool.false_eq_true, if_false, offered_val hl]
      unfold staff_RatioOf
      simp only [c1, Bool.false_eq_true, if_false, ha, hb, h1, h2, Option.bind_some]
    · rw [e2]
      simp only [Option.bind_some, c0, c2, Bool.false_eq_true, if_false, hr, h3]
  · refine ⟨((⟨ByteArray.empty, ByteArray.empty⟩ : staff_Ratio), 2), ?_, ?_⟩
    · rw [e1]
      rfl
    · rw [e2]
      rfl

theorem blocked_eq (l : staff_Load) (n : Int) : ∃ x, staff_Blocked l n = some x ∧ portref2_FormulaOf (⟨#[98, 108, 111, 99, 107, 101, 100]⟩ : ByteArray) l n = some x := by
  unfold staff_Blocked portref2_FormulaOf
  have s1 : strEq (⟨#[98, 108, 111, 99, 107, 101, 100]⟩ : ByteArray) (⟨#[111, 102, 102, 101, 114, 101, 100]⟩ : ByteArray) = false := by rw [strEq_lit]; decide
  have s2 : strEq (⟨#[98, 108, 111, 99, 107, 101, 100]⟩ : ByteArray) (⟨#[98, 108, 111, 99, 107, 101, 100]⟩ : ByteArray) = true := by rw [strEq_lit]; decide
  simp only [s1, s2, if_true, Bool.false_eq_true, if_false, Option.bind_some]
  rw [bind2]
  rcases fault_cases l n with ⟨m, rfl, hm, hl, e1, e2⟩ | ⟨e, he, e1, e2⟩
  · rw [e1, e2]
    have c0 : ((0 : Int) != 0) = false := by decide
    obtain ⟨v, hv, nv'⟩ := blocked_val hl m hm
    obtain ⟨r, hr, fr⟩ := blocked_ref hl m hm
    obtain ⟨y, t, h1, h2, h3⟩ := written_both nv'.dn nv'.dd nv'.tn nv'.td nv'.ln nv'.ld (by decide) nv'.vn nv'.vd (aP_nonneg hl.off.1 m) (bD_pos hl.off.1 (S := l.span) (by have := hl.s0; omega) m) fr (by decide)
    exact ⟨(t, 0), by simp only [Option.bind_some, c0, Bool.false_eq_true, if_false, hv, h1, h2], by simp only [Option.bind_some, c0, Bool.false_eq_true, if_false, hr, h3]⟩
  · rw [e1, e2]
    have c0 : (e != 0) = true := by simpa using he
    exact ⟨((⟨ByteArray.empty, ByteArray.empty⟩ : staff_Ratio), e), by simp only [Option.bind_some, c0, if_true], by simp only [Option.bind_some, c0, if_true]⟩

theorem waits_eq (l : staff_Load) (n : Int) : ∃ x, staff_Waits l n = some x ∧ portref2_FormulaOf (⟨#[119, 97, 105, 116, 115]⟩ : ByteArray) l n = some x := by
  unfold staff_Waits portref2_FormulaOf
  have s1 : strEq (⟨#[119, 97, 105, 116, 115]⟩ : ByteArray) (⟨#[111, 102, 102, 101, 114, 101, 100]⟩ : ByteArray) = false := by rw [strEq_lit]; decide
  have s2 : strEq (⟨#[119, 97, 105, 116, 115]⟩ : ByteArray) (⟨#[98, 108, 111, 99, 107, 101, 100]⟩ : ByteArray) = false := by rw [strEq_lit]; decide
  have s3 : strEq (⟨#[119, 97, 105, 116, 115]⟩ : ByteArray) (⟨#[119, 97, 105, 116, 115]⟩ : ByteArray) = true := by rw [strEq_lit]; decide
  simp only [s1, s2, s3, if_true, Bool.false_eq_true, if_false, Option.bind_some]
  rw [bind2]
  rcases fault_cases l n with ⟨m, rfl, hm, hl, e1, e2⟩ | ⟨e, he, e1, e2⟩
  · rw [e1, e2]
    have c0 : ((0 : Int) != 0) = false := by decide
    obtain ⟨p, q, v, r, hp, hq, hv, nv', hr, fr⟩ := waits_both hl m hm
    obtain ⟨y, t, h1, h2, h3⟩ := written_both nv'.dn nv'.dd nv'.tn nv'.td nv'.ln nv'.ld (by decide) nv'.vn nv'.vd hp hq fr (by decide)
    exact ⟨(t, 0), by simp only [Option.bind_some, c0, Bool.false_eq_true, if_false, hv, h1, h2], by simp only [Option.bind_some, c0, Bool.false_eq_true, if_false, hr, h3]⟩
  · rw [e1, e2]
    have c0 : (e != 0) = true := by simpa using he
    exact ⟨((⟨ByteArray.empty, ByteArray.empty⟩ : staff_Ratio), e), by simp only [Option.bind_some, c0, if_true], by simp only [Option.bind_some, c0, if_true]⟩

theorem mean_eq (l : staff_Load) (n : Int) : ∃ x, staff_MeanWait l n = some x ∧ portref2_FormulaOf (⟨#[109, 101, 97, 110]⟩ : ByteArray) l n = some x := by
  unfold staff_MeanWait portref2_FormulaOf
  have s1 : strEq (⟨#[109, 101, 97, 110]⟩ : ByteArray) (⟨#[111, 102, 102, 101, 114, 101, 100]⟩ : ByteArray) = false := by rw [strEq_lit]; decide
  have s2 : strEq (⟨#[109, 101, 97, 110]⟩ : ByteArray) (⟨#[98, 108, 111, 99, 107, 101, 100]⟩ : ByteArray) = false := by rw [strEq_lit]; decide
  have s3 : strEq (⟨#[109, 101, 97, 110]⟩ : ByteArray) (⟨#[119, 97, 105, 116, 115]⟩ : ByteArray) = false := by rw [strEq_lit]; decide
  simp only [s1, s2, s3, if_true, Bool.false_eq_true, if_false, Option.bind_some]
  rw [bind2]
  rcases fault_cases l n with ⟨m, rfl, hm, hl, e1, e2⟩ | ⟨e, he, e1, e2⟩
  · rw [e1, e2]
    have c0 : ((0 : Int) != 0) = false := by decide
    obtain ⟨v, r, b, hv, hr, hb⟩ := mean_both hl m hm
    cases b with
    | true =>
      obtain ⟨p, q, hp, hq, nv', fr⟩ := hb rfl
      obtain ⟨y, t, h1, h2, h3⟩ := written_both nv'.dn nv'.dd nv'.tn nv'.td nv'.ln nv'.ld (by decide) nv'.vn nv'.vd hp hq fr (by decide)
      exact ⟨(t, 0), by simp only [Option.bind_some, c0, Bool.false_eq_true, if_false, hv, Bool.not_true, h1, h2], by simp only [Option.bind_some, c0, Bool.false_eq_true, if_false, hr, Bool.not_true, h3]⟩
    | false => exact ⟨((⟨ByteArray.empty, ByteArray.empty⟩ : staff_Ratio), 7), by simp only [Option.bind_some, c0, Bool.false_eq_true, if_false, hv, Bool.not_false, if_true], by simp only [Option.bind_some, c0, Bool.false_eq_true, if_false, hr, Bool.not_false, if_true]⟩
  · rw [e1, e2]
    have c0 : (e != 0) = true := by simpa using he
    exact ⟨((⟨ByteArray.empty, ByteArray.empty⟩ : staff_Ratio), e), by simp only [Option.bind_some, c0, if_true], by simp only [Option.bind_some, c0, if_true]⟩

theorem formulas_true (l : staff_Load) (n : Int) : portlaw2_StaffFormulas l n = some true := by
  unfold portlaw2_StaffFormulas
  obtain ⟨a, a1, a2⟩ := offered_eq l n
  obtain ⟨b, b1, b2⟩ := blocked_eq l n
  obtain ⟨c, c1, c2⟩ := waits_eq l n
  obtain ⟨d, d1, d2⟩ := mean_eq l n
  have se : ∀ s : ByteArray, strEq s s = true := fun s => by simp [strEq]
  simp only [a1, a2, b1, b2, c1, c2, d1, d2, Option.bind_some, se, Bool.and_self, Bool.not_true, bne_self_eq_false, Bool.or_self, Bool.false_eq_true, if_false, beq_self_eq_true]
end Go.Proofs.YtbmbgmeggeemcaaDoor.M
