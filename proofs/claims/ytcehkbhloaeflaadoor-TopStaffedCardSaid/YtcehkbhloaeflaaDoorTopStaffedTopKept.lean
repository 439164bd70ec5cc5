/-
  What a load waits, and when a promise is kept: the values of the program's formulas.
-/
import Derived.Test.YtcehkbhloaeflaaDoorTopStaffedBigNat2
namespace Go.Proofs.YtcehkbhloaeflaaDoor.M
open Go Go.Pu
set_option linter.unusedSimpArgs false
set_option linter.unusedVariables false

def aP (A : Int) : Nat → Int
  | 0 => 1
  | i + 1 => aP A i * A
def bD (A S : Int) : Nat → Int
  | 0 => 1
  | i + 1 => ((i : Int) + 1) * S * bD A S i + aP A (i + 1)
theorem aP_nonneg {A : Int} (h : 0 ≤ A) : ∀ i, 0 ≤ aP A i
  | 0 => by show (0 : Int) ≤ 1; decide
  | i + 1 => Int.mul_nonneg (aP_nonneg h i) h
theorem aP_pos {A : Int} (h : 0 < A) : ∀ i, 0 < aP A i
  | 0 => by show (0 : Int) < 1; decide
  | i + 1 => Int.mul_pos (aP_pos h i) h
theorem bD_pos {A S : Int} (h : 0 ≤ A) (hs : 0 < S) : ∀ i, 0 < bD A S i
  | 0 => by show (0 : Int) < 1; decide
  | i + 1 => by
    have h1 := bD_pos h hs i
    have h2 := aP_nonneg h (i + 1)
    have h3 := Int.mul_pos (Int.mul_pos (show 0 < (i : Int) + 1 by omega) hs) h1
    show 0 < ((i : Int) + 1) * S * bD A S i + aP A (i + 1)
    omega
theorem aP_le_bD {A S : Int} (h : 0 ≤ A) (hs : 0 < S) : ∀ i, aP A i ≤ bD A S i
  | 0 => Int.le_refl 1
  | i + 1 => by
    have h1 := bD_pos h hs i
    have h3 := Int.mul_pos (Int.mul_pos (show 0 < (i : Int) + 1 by omega) hs) h1
    show aP A (i + 1) ≤ ((i : Int) + 1) * S * bD A S i + aP A (i + 1)
    omega

structure LoadOK (l : staff_Load) : Prop where
  c0 : 0 ≤ l.calls
  c1 : l.calls ≤ 100000
  l0 : 1 ≤ l.length
  l1 : l.length ≤ 1440
  s0 : 1 ≤ l.span
  s1 : l.span ≤ 10080
theorem LoadOK.off {l : staff_Load} (h : LoadOK l) : 0 ≤ l.calls * l.length ∧ l.calls * l.length ≤ 144000000 := by
  obtain ⟨h1, h2, h3, h4, _, _⟩ := h
  exact ⟨Int.mul_nonneg h1 (by omega), Int.mul_le_mul h2 h4 (by omega) (by decide)⟩
theorem LoadOK.ns {l : staff_Load} (h : LoadOK l) {n : Nat} (hn : n ≤ 60) : 0 ≤ (n : Int) * l.span ∧ (n : Int) * l.span ≤ 604800 := by
  obtain ⟨_, _, _, _, h5, h6⟩ := h
  exact ⟨Int.mul_nonneg (by omega) (by omega), Int.mul_le_mul (show (n : Int) ≤ 60 by omega) h6 (by omega) (by decide)⟩

/-- an exact pair of the program -/
structure NR (r : staff_ratio) (L : Nat) (p q : Int) : Prop where
  dn : Dig r.num
  dd : Dig r.den
  ln : r.num.length ≤ L
  ld : r.den.length ≤ L
  vn : nv r.num = p
  vd : nv r.den = q

theorem offered_val {l : staff_Load} (h : LoadOK l) : staff_Load_offered l = some (l.calls * l.length, l.span) := by
  unfold staff_Load_offered
  have := h.off
  rw [w64_id (by omega) (by omega)]
theorem blocked_val {l : staff_Load} (h : LoadOK l) (n : Nat) (hn : n ≤ 60) : ∃ r, staff_Load_blocked l n = some r ∧ NR r 130 (aP (l.calls * l.length) n) (bD (l.calls * l.length) l.span n) := by
  unfold staff_Load_blocked
  rw [offered_val h]
  simp only [Option.bind_some]
  have hA := h.off
  have hs0 := h.s0
  have hs1 := h.s1
  generalize l.calls * l.length = A at *
  generalize l.span = S at *
  obtain ⟨x, hx, r, rfl, hr⟩ := whileB_spec (R := staff_ratio) (body := fun (s61 : Int × staff_ratio) => if (decide (s61.1 < (n : Int))) = true then Option.bind (staff_nat_small s61.2.num A) fun x77 => Option.bind (staff_nat_small s61.2.den (w64 ((w64 (s61.1 + 1)) * S))) fun x83 => Option.bind (staff_nat_plus x83 x77) fun x89 => some (.nx (w64 (s61.1 + 1), (⟨x77, x89⟩ : staff_ratio))) else some (.bk (s61.1, s61.2)))
    (fun s => ∃ k : Nat, s.1 = (k : Int) ∧ k ≤ n ∧ NR s.2 (1 + 2 * k) (aP A k) (bD A S k)) (fun s => n - s.1.toNat)
    (fun x => ∃ r : staff_ratio, x = .fin ((n : Int), r) ∧ NR r 130 (aP A n) (bD A S n)) (s := (0, (⟨([1] : List Int), ([1] : List Int)⟩ : staff_ratio)))
    ⟨0, rfl, Nat.zero_le _, by intro x hx; simp at hx; omega, by intro x hx; simp at hx; omega, by simp, by simp, by simp [nv, aP], by simp [nv, bD]⟩
    (by
      rintro ⟨i, r⟩ ⟨k, hi, hk, hr⟩
      dsimp only at hi hr ⊢
      subst hi
      by_cases hkn : k < n
      · have e : decide ((k : Int) < (n : Int)) = true := by rw [decide_eq_true_eq]; omega
        have w1 : w64 ((k : Int) + 1) = ((k + 1 : Nat) : Int) := by rw [w64_id (by omega) (by omega)]; omega
        have hm : 0 ≤ ((k + 1 : Nat) : Int) * S ∧ ((k + 1 : Nat) : Int) * S ≤ 604800 := ⟨Int.mul_nonneg (by omega) (by omega), Int.mul_le_mul (show ((k + 1 : Nat) : Int) ≤ 60 by omega) hs1 (by omega) (by decide)⟩
        have w2 : w64 (((k + 1 : Nat) : Int) * S) = ((k + 1 : Nat) : Int) * S := w64_id (by omega) (by omega)
        have l1 := hr.ln
        have l2 := hr.ld
        obtain ⟨a, ha, a1, a2, a3, a4⟩ := small_spec r.num A hr.dn (by omega) (by omega)
        obtain ⟨b, hb, b1, b2, b3, b4⟩ := small_spec r.den (((k + 1 : Nat) : Int) * S) hr.dd (by omega) (by omega)
        obtain ⟨c, hc, c1, c2, c3⟩ := plus_spec b a b2 a2 (by omega) (by omega)
        simp only [e, if_true, w1, w2, ha, hb, hc, Option.bind_some]
        refine ⟨_, rfl, ⟨k + 1, rfl, by omega, a2, c2, by show a.length ≤ _; omega, by show c.length ≤ _; omega, ?_, ?_⟩, ?_⟩
        · show nv a = aP A k * A
          rw [a1, hr.vn, Int.mul_comm]
        · show nv c = ((k : Int) + 1) * S * bD A S k + aP A k * A
          rw [c1, b1, a1, hr.vn, hr.vd, Int.mul_comm A]
          rfl
        · show n - ((k + 1 : Nat) : Int).toNat < n - (k : Int).toNat
          simp only [Int.toNat_natCast]
          omega
      · have e : decide ((k : Int) < (n : Int)) = false := by rw [decide_eq_false_iff_not]; omega
        simp only [e, Bool.false_eq_true, if_false]
        obtain rfl : k = n := by omega
        exact ⟨_, rfl, r, rfl, hr.dn, hr.dd, by have := hr.ln; omega, by have := hr.ld; omega, hr.vn, hr.vd⟩)
  rw [hx]
  exact ⟨r, rfl, hr⟩

theorem sgn_le {x y : Int} : decide (sgn x y ≤ 0) = decide (x ≤ y) := by
  unfold sgn
  by_cases h : x < y
  · rw [if_pos h]
    rw [decide_eq_true (by decide), decide_eq_true (by omega)]
  · rw [if_neg h]
    by_cases h2 : x = y
    · rw [if_pos h2]
      rw [decide_eq_true (by decide), decide_eq_true (by omega)]
    · rw [if_neg h2]
      rw [decide_eq_false (by decide), decide_eq_false (by omega)]

theorem enough_val {l : staff_Load} (h : LoadOK l) (n : Nat) (hn : n ≤ 60) : staff_Load_enough l n = some (decide (l.calls * l.length < (n : Int) * l.span)) := by
  unfold staff_Load_enough
  rw [offered_val h]
  have := h.ns hn
  simp only [Option.bind_some]
  rw [w64_id (by omega) (by omega)]

structure PromOK (p : staff_Promise) : Prop where
  s0 : 0 ≤ p.share
  s1 : p.share ≤ p.of
  o0 : 1 ≤ p.of
  o1 : p.of ≤ 1000000
  w0 : 0 ≤ p.wait
  w1 : p.wait ≤ 1000000
  p0 : 1 ≤ p.parts
  p1 : p.parts ≤ 1000000


/-- the share that waits: top and bottom -/
def wX (A S : Int) (n : Nat) : Int := aP A n * ((n : Int) * S)
def wY (A S : Int) (n : Nat) : Int := bD A S n * ((n : Int) * S - A) + aP A n * A

theorem wY_pos {A S : Int} (hA : 0 ≤ A) (hS : 0 < S) {n : Nat} (he : A < (n : Int) * S) : 0 < wY A S n := by
  have q1 := Int.mul_pos (bD_pos hA hS n) (show 0 < (n : Int) * S - A by omega)
  have q2 := Int.mul_nonneg (aP_nonneg hA n) hA
  unfold wY
  omega

theorem waits_val {l : staff_Load} (h : LoadOK l) (n : Nat) (hn : n ≤ 60) (hc : l.calls ≠ 0) (he : l.calls * l.length < (n : Int) * l.span) :
    ∃ v, staff_Load_waits l n = some v ∧ NR v 200 (wX (l.calls * l.length) l.span n) (wY (l.calls * l.length) l.span n) := by
  unfold staff_Load_waits
  have hcb : (l.calls == 0) = false := by simpa using hc
  have e1 : decide (l.calls * l.length < (n : Int) * l.span) = true := decide_eq_true he
  have hoff := h.off
  have hns := h.ns hn
  obtain ⟨b, hb, nb⟩ := blocked_val h n hn
  rw [hcb, enough_val h n hn]
  simp only [Bool.false_eq_true, if_false, Option.bind_some, e1, Bool.not_true, offered_val h, hb]
  unfold wX wY
  generalize l.calls * l.length = A at *
  generalize l.span = S at *
  have w1 : w64 ((n : Int) * S) = (n : Int) * S := w64_id (by omega) (by omega)
  have w2 : w64 ((n : Int) * S - A) = (n : Int) * S - A := w64_id (by omega) (by omega)
  have l1 := nb.ln
  have l2 := nb.ld
  obtain ⟨x, hx, x1, x2, x3, x4⟩ := small_spec b.num ((n : Int) * S) nb.dn (by omega) (by omega)
  obtain ⟨y, hy, y1, y2, y3, y4⟩ := small_spec b.den ((n : Int) * S - A) nb.dd (by omega) (by omega)
  obtain ⟨z, hz, z1, z2, z3, z4⟩ := small_spec b.num A nb.dn (by omega) (by omega)
  obtain ⟨m, hm, m1, m2, m3⟩ := plus_spec y z y2 z2 (by omega) (by omega)
  refine ⟨(⟨x, m⟩ : staff_ratio), ?_, x2, m2, ?_, ?_, ?_, ?_⟩
  · simp only [w1, w2, hx, hy, hz, hm, Option.bind_some]
  · show x.length ≤ 200
    omega
  · show m.length ≤ 200
    omega
  · show nv x = _
    rw [x1, nb.vn, Int.mul_comm]
  · show nv m = _
    rw [m1, y1, z1, nb.vn, nb.vd, Int.mul_comm (bD A S n), Int.mul_comm (aP A n)]

/-- the promise is kept -/
def Kept (l : staff_Load) (p : staff_Promise) (n : Nat) : Prop :=
  l.calls = 0 ∨ (l.calls * l.length < (n : Int) * l.span ∧ wX (l.calls * l.length) l.span n * p.of ≤ p.share * wY (l.calls * l.length) l.span n ∧
    wX (l.calls * l.length) l.span n * (l.length * l.span) * p.parts ≤ p.wait * (wY (l.calls * l.length) l.span n * ((n : Int) * l.span - l.calls * l.length)))

theorem ratio_compare_val {v : staff_ratio} {Ln : Nat} {p q a b : Int} (hv : NR v Ln p q) (hLn : Ln ≤ 50000) (ha : 0 ≤ a ∧ a < 1000000000) (hb : 0 < b ∧ b < 1000000000) :
    ∃ x y, staff_natOf a = some x ∧ staff_natOf b = some y ∧ staff_ratio_compare v (⟨x, y⟩ : staff_ratio) = some (sgn (p * b) (a * q)) := by
  obtain ⟨x, hx, x1, x2, x3, x4⟩ := natOf_spec a ha
  obtain ⟨y, hy, y1, y2, y3, y4⟩ := natOf_spec b (by omega)
  refine ⟨x, y, hx, hy, ?_⟩
  unfold staff_ratio_compare
  obtain ⟨s, hs, s1, s2, s3, s4⟩ := times_spec v.num y hv.dn y2 (by have := hv.ln; omega) (by omega)
  obtain ⟨t, ht, t1, t2, t3, t4⟩ := times_spec x v.den x2 hv.dd (by omega) (by have := hv.ld; omega)
  have l1 := hv.ln
  have l2 := hv.ld
  simp only [hs, ht, compare_spec s t s2 t2 s3 t3 (by omega) (by omega), Option.bind_some]
  rw [s1, t1, hv.vn, hv.vd, x1, y1]

theorem keeps_val {l : staff_Load} {p : staff_Promise} (h : LoadOK l) (hp : PromOK p) (n : Nat) (hn : n ≤ 60) : ∃ b, staff_Load_keeps l p n = some b ∧ (b = true ↔ Kept l p n) := by
  unfold staff_Load_keeps
  have hp' := hp
  obtain ⟨s0, s1, o0, o1, w0, w1, t0, t1⟩ := hp
  have hoff := h.off
  have hns := h.ns hn
  have d1 : Dig ([1] : List Int) := by intro x hx; simp at hx; omega
  have d0 : Dig ([] : List Int) := by intro x hx; simp at hx
  by_cases hc : l.calls = 0
  · have hcb : (l.calls == 0) = true := by simpa using hc
    have hm : staff_Load_meanWait l n = some ((⟨([] : List Int), ([1] : List Int)⟩ : staff_ratio), true) := by
      unfold staff_Load_meanWait
      rw [hcb]
      rfl
    have hw : staff_Load_waits l n = some (⟨([] : List Int), ([1] : List Int)⟩ : staff_ratio) := by
      unfold staff_Load_waits
      rw [hcb]
      rfl
    have nr : NR (⟨([] : List Int), ([1] : List Int)⟩ : staff_ratio) 1 0 1 := ⟨d0, d1, by simp, by simp, by simp [nv], by simp [nv]⟩
    obtain ⟨x, y, hx, hy, hs⟩ := ratio_compare_val nr (by decide) (a := p.share) (b := p.of) (by omega) (by omega)
    obtain ⟨x2, y2, hx2, hy2, hs2⟩ := ratio_compare_val nr (by decide) (a := p.wait) (b := p.parts) (by omega) (by omega)
    simp only [hm, hw, if_true, hx, hy, hs, hx2, hy2, hs2, Option.bind_some, sgn_le]
    have q1 : decide (0 * p.of ≤ p.share * 1) = true := decide_eq_true (by omega)
    have q2 : decide (0 * p.parts ≤ p.wait * 1) = true := decide_eq_true (by omega)
    simp only [q1, q2, if_true, Option.bind_some]
    exact ⟨true, rfl, fun _ => .inl hc, fun _ => rfl⟩
  have hcb : (l.calls == 0) = false := by simpa using hc
  by_cases he : l.calls * l.length < (n : Int) * l.span
  · have e1 : decide (l.calls * l.length < (n : Int) * l.span) = true := decide_eq_true he
    obtain ⟨v, hv, nv'⟩ := waits_val h n hn hc he
    have hs0 := h.s0
    have hs1 := h.s1
    have hl0 := h.l0
    have hl1 := h.l1
    have hLS : 0 ≤ l.length * l.span ∧ l.length * l.span ≤ 14515200 := ⟨Int.mul_nonneg (by omega) (by omega), Int.mul_le_mul hl1 hs1 (by omega) (by decide)⟩
    have l1 := nv'.ln
    have l2 := nv'.ld
    obtain ⟨x, hx, x1, x2, x3, x4⟩ := small_spec v.num (l.length * l.span) nv'.dn (by omega) (by omega)
    obtain ⟨y, hy, y1, y2, y3, y4⟩ := small_spec v.den ((n : Int) * l.span - l.calls * l.length) nv'.dd (by omega) (by omega)
    have hm : staff_Load_meanWait l n = some ((⟨x, y⟩ : staff_ratio), true) := by
      unfold staff_Load_meanWait
      rw [hcb, enough_val h n hn]
      simp only [Bool.false_eq_true, if_false, Option.bind_some, e1, Bool.not_true, offered_val h, hv]
      rw [w64_id (n := l.length * l.span) (by omega) (by omega), w64_id (n := (n : Int) * l.span) (by omega) (by omega), w64_id (n := (n : Int) * l.span - l.calls * l.length) (by omega) (by omega), hx, hy]
      rfl
    have nr : NR (⟨x, y⟩ : staff_ratio) 300 (wX (l.calls * l.length) l.span n * (l.length * l.span)) (wY (l.calls * l.length) l.span n * ((n : Int) * l.span - l.calls * l.length)) :=
      ⟨x2, y2, by show x.length ≤ 300; omega, by show y.length ≤ 300; omega, by show nv x = _; rw [x1, nv'.vn, Int.mul_comm], by show nv y = _; rw [y1, nv'.vd, Int.mul_comm]⟩
    obtain ⟨a, b, ha, hb, hs⟩ := ratio_compare_val nv' (by decide) (a := p.share) (b := p.of) (by omega) (by omega)
    obtain ⟨a2, b2, ha2, hb2, hs2⟩ := ratio_compare_val nr (by decide) (a := p.wait) (b := p.parts) (by omega) (by omega)
    simp only [hm, hv, if_true, ha, hb, hs, ha2, hb2, hs2, Option.bind_some, sgn_le]
    unfold Kept
    by_cases q1 : wX (l.calls * l.length) l.span n * p.of ≤ p.share * wY (l.calls * l.length) l.span n
    · simp only [decide_eq_true q1, if_true, Option.bind_some]
      refine ⟨_, rfl, ?_⟩
      rw [decide_eq_true_eq]
      exact ⟨fun q2 => .inr ⟨he, q1, q2⟩, fun q => (q.resolve_left hc).2.2⟩
    · simp only [decide_eq_false q1, Bool.false_eq_true, if_false, Option.bind_some]
      refine ⟨_, rfl, ?_⟩
      exact ⟨fun q => (by cases q), fun q => absurd (q.resolve_left hc).2.1 q1⟩
  · have e1 : decide (l.calls * l.length < (n : Int) * l.span) = false := decide_eq_false he
    have hm : staff_Load_meanWait l n = some ((⟨([] : List Int), ([] : List Int)⟩ : staff_ratio), false) := by
      unfold staff_Load_meanWait
      rw [hcb, enough_val h n hn]
      simp only [Bool.false_eq_true, if_false, Option.bind_some, e1, Bool.not_false, if_true]
    simp only [hm, Bool.false_eq_true, if_false, Option.bind_some]
    exact ⟨false, rfl, fun q => (by cases q), fun q => absurd (q.resolve_left hc).1 he⟩

/-- one more person keeps what was kept -/
theorem kept_succ {l : staff_Load} {p : staff_Promise} (h : LoadOK l) (hp : PromOK p) {n : Nat} (hk : Kept l p n) : Kept l p (n + 1) := by
  rcases hk with hc | ⟨he, h1, h2⟩
  · exact .inl hc
  refine .inr ?_
  have hoff := h.off
  have hs0 := h.s0
  have hl0 := h.l0
  have hLS : 0 ≤ l.length * l.span := Int.mul_nonneg (by omega) (by omega)
  obtain ⟨s0, s1, o0, o1, w0, w1, t0, t1⟩ := hp
  generalize l.calls * l.length = A at *
  generalize l.length * l.span = L at *
  generalize l.span = S at *
  have hnn : ((n + 1 : Nat) : Int) * S = (n : Int) * S + S := by
    rw [show ((n + 1 : Nat) : Int) = (n : Int) + 1 by omega, Int.add_mul, Int.one_mul]
  have he' : A < ((n + 1 : Nat) : Int) * S := by omega
  have hy := wY_pos hoff.1 (S := S) (by omega) he
  have hy' := wY_pos hoff.1 (S := S) (by omega) he'
  have hN := aP_nonneg hoff.1 n
  have hD := bD_pos hoff.1 (S := S) (by omega) n
  have key : wX A S (n + 1) * wY A S n ≤ wX A S n * wY A S (n + 1) := by
    have e1 : wX A S (n + 1) * wY A S n = aP A n * (((n + 1 : Nat) : Int) * S) * (A * wY A S n) := by
      show aP A n * A * (((n + 1 : Nat) : Int) * S) * wY A S n = _
      ac_rfl
    have e2 : wY A S (n + 1) = ((n + 1 : Nat) : Int) * S * (bD A S n * (((n + 1 : Nat) : Int) * S - A) + aP A n * A) := by
      show (((n : Int) + 1) * S * bD A S n + aP A n * A) * (((n + 1 : Nat) : Int) * S - A) + aP A n * A * A = _
      have e3 : ((n : Int) + 1) * S * bD A S n = ((n + 1 : Nat) : Int) * S * bD A S n := by rfl
      rw [e3]
      generalize ((n + 1 : Nat) : Int) * S = V
      generalize aP A n * A = M
      rw [Int.add_mul, Int.mul_add, Int.mul_sub M, Int.mul_comm V M, Int.mul_assoc]
      omega
    have e4 : wX A S n * wY A S (n + 1) = aP A n * (((n + 1 : Nat) : Int) * S) * ((n : Int) * S * (bD A S n * (((n + 1 : Nat) : Int) * S - A) + aP A n * A)) := by
      rw [e2]
      show aP A n * ((n : Int) * S) * _ = _
      ac_rfl
    rw [e1, e4]
    refine Int.mul_le_mul_of_nonneg_left ?_ (Int.mul_nonneg hN (by omega))
    refine Int.mul_le_mul (by omega) ?_ (by omega) (by omega)
    unfold wY
    have := Int.mul_le_mul_of_nonneg_left (show (n : Int) * S - A ≤ ((n + 1 : Nat) : Int) * S - A by omega) (Int.le_of_lt hD)
    omega
  refine ⟨he', ?_, ?_⟩
  · have q1 := Int.mul_le_mul_of_nonneg_right key (show 0 ≤ p.of by omega)
    have q2 := Int.mul_le_mul_of_nonneg_right h1 (Int.le_of_lt hy')
    have q3 : wX A S (n + 1) * p.of * wY A S n ≤ p.share * wY A S (n + 1) * wY A S n := by
      have e1 : wX A S (n + 1) * p.of * wY A S n = wX A S (n + 1) * wY A S n * p.of := by ac_rfl
      have e2 : wX A S n * wY A S (n + 1) * p.of = wX A S n * p.of * wY A S (n + 1) := by ac_rfl
      have e3 : p.share * wY A S n * wY A S (n + 1) = p.share * wY A S (n + 1) * wY A S n := by ac_rfl
      omega
    exact Int.le_of_mul_le_mul_right q3 hy
  · have q1 := Int.mul_le_mul_of_nonneg_right key (show 0 ≤ L * p.parts from Int.mul_nonneg hLS (by omega))
    have q2 := Int.mul_le_mul_of_nonneg_right h2 (Int.le_of_lt hy')
    have q4 := Int.mul_le_mul_of_nonneg_left (show (n : Int) * S - A ≤ ((n + 1 : Nat) : Int) * S - A by omega) (show 0 ≤ p.wait * wY A S n * wY A S (n + 1) from Int.mul_nonneg (Int.mul_nonneg w0 (Int.le_of_lt hy)) (Int.le_of_lt hy'))
    have q3 : wX A S (n + 1) * L * p.parts * wY A S n ≤ p.wait * (wY A S (n + 1) * (((n + 1 : Nat) : Int) * S - A)) * wY A S n := by
      have e1 : wX A S (n + 1) * L * p.parts * wY A S n = wX A S (n + 1) * wY A S n * (L * p.parts) := by ac_rfl
      have e2 : wX A S n * wY A S (n + 1) * (L * p.parts) = wX A S n * L * p.parts * wY A S (n + 1) := by ac_rfl
      have e3 : p.wait * (wY A S n * ((n : Int) * S - A)) * wY A S (n + 1) = p.wait * wY A S n * wY A S (n + 1) * ((n : Int) * S - A) := by ac_rfl
      have e5 : p.wait * (wY A S (n + 1) * (((n + 1 : Nat) : Int) * S - A)) * wY A S n = p.wait * wY A S n * wY A S (n + 1) * (((n + 1 : Nat) : Int) * S - A) := by ac_rfl
      omega
    exact Int.le_of_mul_le_mul_right q3 hy
theorem kept_mono {l : staff_Load} {p : staff_Promise} (h : LoadOK l) (hp : PromOK p) {n m : Nat} (hle : n ≤ m) (hk : Kept l p n) : Kept l p m := by
  induction hle with
  | refl => exact hk
  | step _ ih => exact kept_succ h hp ih
end Go.Proofs.YtcehkbhloaeflaaDoor.M
