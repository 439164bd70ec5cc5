/-
  Shares of promises: a search in a sorted list, an insertion, a count; the reference's list holds the same in another order.
-/
import Derived.Test.YtnjlojicebcikaaGreatClockSharesClkState
import Derived.Test.YtnjlojicebcikaaGreatClockSharesRngBase
namespace Go.Proofs.YtnjlojicebcikaaGreat.M
open Go Go.Pu
set_option linter.unusedSimpArgs false
set_option linter.unusedVariables false

/-- by level, then by kind -/
def kl (a b : level_Share) : Prop := a.level < b.level ∨ a.level = b.level ∧ a.kind < b.kind
def lo (s : level_Share) (c : level_Clock) : Prop := s.level < c.level ∨ s.level = c.level ∧ s.kind < c.kind
def at_ (s : level_Share) (c : level_Clock) : Bool := (s.level == c.level) && (s.kind == c.kind)
theorem at_iff (s : level_Share) (c : level_Clock) : at_ s c = true ↔ s.level = c.level ∧ s.kind = c.kind := by simp [at_]
theorem or_ints (a b : Int) : cmp_Or_int [a, b] = some (if a ≠ 0 then a else b) := by
  unfold cmp_Or_int
  by_cases ha : a = 0
  · by_cases hb : b = 0
    · simp [ha, hb, rangeB, idx, Lp.andThen]
    · simp [ha, hb, rangeB, idx, Lp.andThen]
  · simp [ha, rangeB, idx, Lp.andThen]
theorem sh1_val (s : level_Share) (c : level_Clock) : ∃ v, level_Shares_1 s c = some v ∧ (v < 0 ↔ lo s c) ∧ (v = 0 ↔ at_ s c = true) := by
  unfold level_Shares_1
  rw [or_ints, compare_val, compare_val, Option.bind_some, at_iff]
  unfold lo
  refine ⟨_, rfl, ?_, ?_⟩
  · split <;> split <;> (try split) <;> omega
  · split <;> split <;> (try split) <;> omega
theorem sh2_val (x y : level_Share) : ∃ v, portref2_SharesOf_2 x y = some v ∧ (v < 0 ↔ kl x y) := by
  unfold portref2_SharesOf_2
  rw [or_ints, compare_val, compare_val, Option.bind_some]
  unfold kl
  refine ⟨_, rfl, ?_⟩
  split <;> split <;> (try split) <;> omega

theorem mid_big (n : Nat) (hn : n ≤ 100000) : Option.bind (shr .u64 (IntKind.wrap .u64 (w64 (n : Int))) 1) (fun x => some (IntKind.wrap .i64 x)) = some ((n / 2 : Nat) : Int) := by
  have h1 : w64 (n : Int) = (n : Int) := w64_id (by omega) (by omega)
  have h2 : IntKind.wrap .u64 (n : Int) = (n : Int) := by
    simp only [IntKind.wrap, IntKind.bits, IntKind.signed]
    simp
    omega
  have h3 : IntKind.wrap .i64 ((n : Int).fdiv 2) = ((n / 2 : Nat) : Int) := by
    have : (n : Int).fdiv 2 = ((n / 2 : Nat) : Int) := by
      rw [Int.fdiv_eq_ediv_of_nonneg _ (by decide)]
      omega
    rw [this]
    exact w64_id (by omega) (by omega)
  rw [h1, h2, shr, if_neg (by decide)]
  have e : (2 : Int) ^ (min (1 : Int).toNat IntKind.u64.bits) = 2 := by decide
  rw [e]
  simp only [Option.bind_some, h3]
theorem search_sh {l : List level_Share} (hl : l.length ≤ 8000) (hs : l.Pairwise kl) (c : level_Clock) :
    ∃ a : Nat, a ≤ l.length ∧ slices_BinarySearchFunc_Llevel_Share_level_Share_level_Clock l c (fun y77 y78 => level_Shares_1 y77 y78) = some ((a : Int), decide (∃ x, l[a]? = some x ∧ at_ x c = true)) ∧ (∀ q x, q < a → l[q]? = some x → lo x c) ∧ ∀ q x, a ≤ q → l[q]? = some x → ¬ lo x c := by
  have hp : ∀ (p q : Nat) (x y : level_Share), p < q → l[p]? = some x → l[q]? = some y → kl x y := fun p q x y hpq hx hy => by
    obtain ⟨h1, rfl⟩ := List.getElem?_eq_some_iff.1 hx
    obtain ⟨h2, rfl⟩ := List.getElem?_eq_some_iff.1 hy
    exact List.pairwise_iff_getElem.1 hs p q h1 h2 hpq
  unfold slices_BinarySearchFunc_Llevel_Share_level_Share_level_Clock
  obtain ⟨o, ho, a, rfl, ha, hlo, hhi⟩ := whileB_spec (R := Int × Bool) (body := fun s20 : Int × Int => if (decide (s20.1 < s20.2)) = true then Option.bind (Option.bind (shr .u64 (IntKind.wrap .u64 (w64 (s20.1 + s20.2))) 1) fun x40 => Option.bind (idx l (IntKind.wrap .i64 x40)) fun x41 => Option.bind (level_Shares_1 x41 c) fun x49 => Option.bind (if (decide (x49 < 0)) = true then some (w64 ((IntKind.wrap .i64 x40) + 1), s20.2) else some (s20.1, IntKind.wrap .i64 x40)) fun s54 => some (s54.1, s54.2)) fun s33 => some (.nx (s33.1, s33.2)) else some (.bk (s20.1, s20.2)))
    (fun s => ∃ a b : Nat, s = ((a : Int), (b : Int)) ∧ a ≤ b ∧ b ≤ l.length ∧ (∀ q x, q < a → l[q]? = some x → lo x c) ∧ ∀ q x, b ≤ q → l[q]? = some x → ¬ lo x c) (fun s => (s.2 - s.1).toNat)
    (fun o => ∃ a : Nat, o = .fin ((a : Int), (a : Int)) ∧ a ≤ l.length ∧ (∀ q x, q < a → l[q]? = some x → lo x c) ∧ ∀ q x, a ≤ q → l[q]? = some x → ¬ lo x c) (s := (0, (l.length : Int)))
    ⟨0, l.length, rfl, Nat.zero_le _, Nat.le_refl _, fun q x h => absurd h (Nat.not_lt_zero _), fun q x h hx => absurd (List.getElem?_eq_some_iff.1 hx).1 (by omega)⟩ (by
    rintro _ ⟨a, b, rfl, hab, hb, h1, h2⟩
    simp only
    by_cases hlt : (a : Int) < (b : Int)
    · have hm := mid_big (a + b) (by omega)
      cases hsh : shr .u64 (IntKind.wrap .u64 (w64 ((a : Int) + (b : Int)))) 1 with
      | none => rw [show ((a + b : Nat) : Int) = (a : Int) + (b : Int) by omega, hsh] at hm; simp at hm
      | some v =>
        rw [show ((a + b : Nat) : Int) = (a : Int) + (b : Int) by omega, hsh] at hm
        simp only [Option.bind_some, Option.some.injEq] at hm
        have hmb : (a + b) / 2 < l.length := by omega
        have hx : l[(a + b) / 2]? = some l[(a + b) / 2] := List.getElem?_eq_getElem hmb
        generalize l[(a + b) / 2] = x at hx
        obtain ⟨z, hz, hzl, _⟩ := sh1_val x c
        simp only [hlt, decide_true, if_true, Option.bind_some, hm, idx_nat, hx, hz]
        by_cases hd : lo x c
        · have hz0 := hzl.2 hd
          simp only [hz0, decide_true, if_true, Option.bind_some]
          rw [w64_id (by omega) (by omega)]
          refine ⟨_, rfl, ⟨(a + b) / 2 + 1, b, by congr 1, by omega, hb, fun q y hq hy => ?_, h2⟩, by simp only; omega⟩
          rcases Nat.lt_or_eq_of_le (Nat.le_of_lt_succ hq) with h | rfl
          · have := hp q _ y x h hy hx
            unfold kl at this
            unfold lo at hd ⊢
            omega
          · rw [hx] at hy; cases hy; exact hd
        · have hz0 : ¬ z < 0 := fun h => hd (hzl.1 h)
          simp only [hz0, decide_false, Bool.false_eq_true, if_false, Option.bind_some]
          refine ⟨_, rfl, ⟨a, (a + b) / 2, rfl, by omega, by omega, h1, fun q y hq hy => ?_⟩, by simp only; omega⟩
          rcases Nat.lt_or_eq_of_le hq with h | rfl
          · have := hp _ q x y h hx hy
            unfold kl at this
            unfold lo at hd ⊢
            omega
          · rw [hx] at hy; cases hy; exact hd
    · simp only [hlt, decide_false, Bool.false_eq_true, if_false]
      obtain rfl : a = b := by omega
      exact ⟨_, rfl, a, rfl, hb, h1, h2⟩)
  rw [ho]
  refine ⟨a, ha, ?_, hlo, hhi⟩
  simp only [Option.bind_some, Lp.andThen_fin]
  by_cases hal : (a : Int) < (l.length : Int)
  · have hx : l[a]? = some l[a] := List.getElem?_eq_getElem (by omega)
    generalize l[a] = x at hx
    obtain ⟨z, hz, _, hze⟩ := sh1_val x c
    simp only [hal, decide_true, if_true, idx_nat, hx, Option.bind_some, hz]
    congr 2
    rw [Bool.eq_iff_iff]
    simp only [beq_iff_eq, decide_eq_true_eq, Option.some.injEq, exists_eq_left']
    exact hze
  · simp only [hal, decide_false, Bool.false_eq_true, if_false, Option.bind_some]
    congr 2
    have : l[a]? = none := List.getElem?_eq_none (by omega)
    simp [this]

/-- one more in a state -/
def bump (q : Int) (s : level_Share) : level_Share :=
  if q = 4 then { s with kept := w64 (s.kept + 1) } else if q = 5 then { s with broken := w64 (s.broken + 1) } else if q = 6 then { s with gone := w64 (s.gone + 1) } else { s with running := w64 (s.running + 1) }
theorem bump_key (q : Int) (s : level_Share) : (bump q s).level = s.level ∧ (bump q s).kind = s.kind := by
  unfold bump
  split
  · exact ⟨rfl, rfl⟩
  split
  · exact ⟨rfl, rfl⟩
  split <;> exact ⟨rfl, rfl⟩
theorem bump_val (q : Int) (s : List level_Share) (k : Int) : (Option.bind (if (q == 4) = true then Option.bind (idx s k) fun x151 => Option.bind (setI s k ({ (x151 : level_Share) with kept := w64 (x151.kept + 1) })) fun x162 => some x162 else Option.bind (if (q == 5) = true then Option.bind (idx s k) fun x178 => Option.bind (setI s k ({ (x178 : level_Share) with broken := w64 (x178.broken + 1) })) fun x189 => some x189 else Option.bind (if (q == 6) = true then Option.bind (idx s k) fun x205 => Option.bind (setI s k ({ (x205 : level_Share) with gone := w64 (x205.gone + 1) })) fun x216 => some x216 else Option.bind (idx s k) fun x221 => Option.bind (setI s k ({ (x221 : level_Share) with running := w64 (x221.running + 1) })) fun x232 => some x232) fun s195 => some s195) fun s168 => some s168) fun s141 => some s141) = Option.bind (idx s k) fun x => setI s k (bump q x) := by
  unfold bump
  by_cases h4 : q = 4
  · simp [h4]
  by_cases h5 : q = 5
  · simp [h5]
  by_cases h6 : q = 6
  · simp [h6]
  simp [h4, h5, h6]
theorem upd_at {A1 A2 : List level_Share} {x : level_Share} (q : Int) : (Option.bind (idx (A1 ++ x :: A2) (A1.length : Int)) fun y => setI (A1 ++ x :: A2) (A1.length : Int) (bump q y)) = some (A1 ++ bump q x :: A2) := by
  rw [idx_nat, List.getElem?_append_right (Nat.le_refl _), Nat.sub_self, List.getElem?_cons_zero, Option.bind_some]
  unfold setI
  rw [if_pos (by rw [List.length_append, List.length_cons]; omega), Int.toNat_natCast, List.set_append_right _ _ (Nat.le_refl _), Nat.sub_self, List.set_cons_zero]

theorem index_sh (B : List level_Share) (c : level_Clock) : slices_IndexFunc_Llevel_Share_level_Share B (fun y76 => portref2_SharesOf_1 y76 c) = some (match B.findIdx? (at_ · c) with | some i => (i : Int) | none => -1) := by
  unfold slices_IndexFunc_Llevel_Share_level_Share
  have := rangeB_index B (at_ · c)
  unfold portref2_SharesOf_1
  simp only [at_] at this ⊢
  rw [this]
  cases B.findIdx? fun s => (s.level == c.level) && (s.kind == c.kind) <;> rfl

/-- the keys of a list that holds the same as one sorted by keys -/
theorem key_one {A B : List level_Share} (hs : A.Pairwise kl) (hp : A.Perm B) {x y : level_Share} (hx : x ∈ B) (hy : y ∈ B) (h : x.level = y.level ∧ x.kind = y.kind) : x = y := by
  have hx' := hp.mem_iff.2 hx
  have hy' := hp.mem_iff.2 hy
  obtain ⟨i, hi, rfl⟩ := List.mem_iff_getElem.1 hx'
  obtain ⟨j, hj, rfl⟩ := List.mem_iff_getElem.1 hy'
  rcases Nat.lt_trichotomy i j with hij | hij | hij
  · have := List.pairwise_iff_getElem.1 hs i j hi hj hij
    unfold kl at this
    omega
  · subst hij; rfl
  · have := List.pairwise_iff_getElem.1 hs j i hj hi hij
    unfold kl at this
    omega

/-- one clock: both lists take it, and hold the same afterwards -/
theorem step_sh {A B : List level_Share} (hs : A.Pairwise kl) (hp : A.Perm B) (hl : A.length < 8000) (c : level_Clock) (q : Int) :
    ∃ A' B', (Option.bind (slices_BinarySearchFunc_Llevel_Share_level_Share_level_Clock A c (fun y77 y78 => level_Shares_1 y77 y78)) fun x79 => Option.bind (if (!x79.2) = true then Option.bind (slices_Insert_Llevel_Share_level_Share A x79.1 ([(⟨c.level, c.kind, 0, 0, 0, 0⟩ : level_Share)] : List level_Share)) fun x115 => some x115 else some A) fun s96 => Option.bind (idx s96 x79.1) fun x => setI s96 x79.1 (bump q x)) = some A' ∧
      (Option.bind (slices_IndexFunc_Llevel_Share_level_Share B (fun y76 => portref2_SharesOf_1 y76 c)) fun x77 => Option.bind (if (decide (x77 < 0)) = true then Option.bind (appendL 2932031007402 B ([(⟨c.level, c.kind, 0, 0, 0, 0⟩ : level_Share)] : List level_Share)) fun x107 => some (x107, (B.length : Int)) else some (B, x77)) fun s90 => Option.bind (idx s90.1 s90.2) fun x => setI s90.1 s90.2 (bump q x)) = some B' ∧
      A'.Pairwise kl ∧ A'.Perm B' ∧ A'.length ≤ A.length + 1 := by
  obtain ⟨a, ha, he, hlo, hhi⟩ := search_sh (Nat.le_of_lt hl) hs c
  rw [he, index_sh, Option.bind_some, Option.bind_some]
  by_cases hx : ∃ x, A[a]? = some x ∧ at_ x c = true
  · -- it is there
    simp only [hx, decide_true, Bool.not_true, Bool.false_eq_true, if_false, Option.bind_some]
    obtain ⟨x, hx1, hx2⟩ := hx
    obtain ⟨hal, rfl⟩ := List.getElem?_eq_some_iff.1 hx1
    generalize hxx : A[a] = x at hx2
    have hA : A = A.take a ++ x :: A.drop (a + 1) := by rw [← hxx, ← List.drop_eq_getElem_cons hal, List.take_append_drop]
    have hA1 : (A.take a).length = a := by rw [List.length_take]; omega
    generalize A.take a = A1 at hA hA1
    generalize A.drop (a + 1) = A2 at hA
    subst hA
    subst hA1
    rw [upd_at]
    have hxB : x ∈ B := hp.mem_iff.1 (by simp)
    cases hf : B.findIdx? (at_ · c) with
    | none => rw [List.findIdx?_eq_none_iff] at hf; have := hf x hxB; rw [hx2] at this; cases this
    | some j =>
      obtain ⟨hj, hj2, _⟩ := List.findIdx?_eq_some_iff_getElem.1 hf
      have hy : B[j] = x := key_one hs hp (List.getElem_mem hj) hxB (by
        have h1 := (at_iff _ _).1 hj2
        have h2 := (at_iff _ _).1 hx2
        omega)
      have hB : B = B.take j ++ x :: B.drop (j + 1) := by rw [← hy, ← List.drop_eq_getElem_cons hj, List.take_append_drop]
      have hB1 : (B.take j).length = j := by rw [List.length_take]; omega
      generalize B.take j = B1 at hB hB1
      generalize B.drop (j + 1) = B2 at hB
      subst hB
      subst hB1
      simp only [show ¬ ((B1.length : Int) < 0) by omega, decide_false, Bool.false_eq_true, if_false, Option.bind_some]
      rw [upd_at]
      refine ⟨_, _, rfl, rfl, ?_, ?_, by simp⟩
      · have hk := bump_key q x
        rw [List.pairwise_append, List.pairwise_cons] at hs ⊢
        obtain ⟨s1, ⟨s2, s3⟩, s4⟩ := hs
        refine ⟨s1, ⟨fun z hz => ?_, s3⟩, fun z hz u hu => ?_⟩
        · have := s2 z hz
          unfold kl at this ⊢
          rw [hk.1, hk.2]
          exact this
        · rcases List.mem_cons.1 hu with rfl | hu
          · have := s4 z hz x (List.mem_cons_self ..)
            unfold kl at this ⊢
            rw [hk.1, hk.2]
            exact this
          · exact s4 z hz u (List.mem_cons_of_mem _ hu)
      · have h1 : (x :: (A1 ++ A2)).Perm (x :: (B1 ++ B2)) := (List.perm_middle.symm.trans hp).trans List.perm_middle
        exact (List.perm_middle.trans ((List.perm_cons x).1 h1 |>.cons _)).trans List.perm_middle.symm
  · -- it is not
    simp only [hx, decide_false, Bool.not_false, if_true]
    have hnone : ∀ y ∈ A, at_ y c = false := fun y hy => by
      obtain ⟨p, hp1, rfl⟩ := List.mem_iff_getElem.1 hy
      have hpy : A[p]? = some A[p] := List.getElem?_eq_getElem hp1
      rw [← Bool.not_eq_true, at_iff]
      intro hk
      rcases Nat.lt_trichotomy p a with h | h | h
      · have := hlo p _ h hpy
        unfold lo at this
        omega
      · subst h
        exact hx ⟨_, hpy, (at_iff _ _).2 hk⟩
      · have h1 := hhi a _ (Nat.le_refl _) (List.getElem?_eq_getElem (by omega : a < A.length))
        have h2 := List.pairwise_iff_getElem.1 hs a p (by omega) hp1 h
        unfold lo at h1
        unfold kl at h2
        omega
    have hfB : B.findIdx? (at_ · c) = none := List.findIdx?_eq_none_iff.2 fun y hy => hnone y (hp.mem_iff.2 hy)
    have hins : slices_Insert_Llevel_Share_level_Share A (a : Int) [(⟨c.level, c.kind, 0, 0, 0, 0⟩ : level_Share)] = some (A.take a ++ (⟨c.level, c.kind, 0, 0, 0, 0⟩ : level_Share) :: A.drop a) := by
      unfold slices_Insert_Llevel_Share_level_Share
      rw [if_pos ⟨by omega, by omega, by simp, by simp; omega⟩, Int.toNat_natCast, List.append_assoc]
      rfl
    have hbl := hp.length_eq
    rw [hins, hfB]
    simp only [Option.bind_some, show ((-1 : Int) < 0) by decide, decide_true, if_true, appendL]
    rw [if_pos (by simp; omega)]
    simp only [Option.bind_some]
    have hA1 : (A.take a).length = a := by rw [List.length_take]; omega
    have hAA : A = A.take a ++ A.drop a := (List.take_append_drop a A).symm
    have hlo' : ∀ y ∈ A.take a, lo y c := fun y hy => by
      obtain ⟨p, hp1, rfl⟩ := List.mem_iff_getElem.1 hy
      rw [List.getElem_take]
      exact hlo p _ (by omega) (List.getElem?_eq_getElem (by rw [List.length_take] at hp1; omega))
    have hhi' : ∀ y ∈ A.drop a, ¬ lo y c ∧ at_ y c = false := fun y hy => by
      obtain ⟨p, hp1, rfl⟩ := List.mem_iff_getElem.1 hy
      rw [List.length_drop] at hp1
      rw [List.getElem_drop]
      exact ⟨hhi (a + p) _ (by omega) (List.getElem?_eq_getElem (by omega)), hnone _ (List.getElem_mem _)⟩
    generalize A.take a = A1 at hAA hA1 hlo'
    generalize A.drop a = A2 at hAA hhi'
    subst hAA
    subst hA1
    rw [upd_at, upd_at (A1 := B) (A2 := [])]
    refine ⟨_, _, rfl, rfl, ?_, ?_, by simp; omega⟩
    · have hk := bump_key q (⟨c.level, c.kind, 0, 0, 0, 0⟩ : level_Share)
      rw [List.pairwise_append] at hs
      rw [List.pairwise_append, List.pairwise_cons]
      obtain ⟨s1, s2, s3⟩ := hs
      refine ⟨s1, ⟨fun z hz => ?_, s2⟩, fun z hz u hu => ?_⟩
      · have h1 := hhi' z hz
        have h2 := h1.1
        have h3 : ¬ (z.level = c.level ∧ z.kind = c.kind) := fun h => by rw [(at_iff z c).2 h] at h1; cases h1.2
        unfold lo at h2
        unfold kl
        rw [hk.1, hk.2]
        simp only
        omega
      · rcases List.mem_cons.1 hu with rfl | hu
        · have := hlo' z hz
          unfold lo at this
          unfold kl
          rw [hk.1, hk.2]
          exact this
        · exact s3 z hz u hu
    · refine List.perm_middle.trans ?_
      refine (hp.cons _).trans ?_
      exact (List.perm_append_comm (l₁ := B) (l₂ := [bump q (⟨c.level, c.kind, 0, 0, 0, 0⟩ : level_Share)])).symm

theorem uniq_sh {A m : List level_Share} (hp : A.Perm m) (hs : A.Pairwise kl) (hm : m.Pairwise fun x y => ¬ kl y x) : A = m :=
  uniq_sorted (fun x y => kl x y ∨ x = y) (fun x y h1 h2 => by
    rcases h1 with h1 | h1
    · rcases h2 with h2 | h2
      · unfold kl at h1 h2; omega
      · exact h2.symm
    · exact h1) A m hp (hs.imp Or.inl) (hm.imp_of_mem fun {x y} hx hy h => by
    by_cases hk : kl x y
    · exact Or.inl hk
    · refine Or.inr (key_one hs hp hx hy ?_)
      unfold kl at h hk
      omega)

theorem sort_sh {A B : List level_Share} (hs : A.Pairwise kl) (hp : A.Perm B) (hl : A.length ≤ 8000) : sortFuncL (fun y241 y242 => portref2_SharesOf_2 y241 y242) B = some A := by
  have hlt : ∀ x y : level_Share, cmpLt (fun y241 y242 => portref2_SharesOf_2 y241 y242) x y = true ↔ kl x y := fun x y => by
    obtain ⟨v, h1, h2⟩ := sh2_val x y
    unfold cmpLt
    simp only [h1, decide_eq_true_eq]
    exact h2
  have hnl : ∀ x y : level_Share, cmpLt (fun y241 y242 => portref2_SharesOf_2 y241 y242) x y = false ↔ ¬ kl x y := fun x y => by rw [← hlt, Bool.not_eq_true]
  have hok : SortOk (fun y241 y242 => portref2_SharesOf_2 y241 y242) B := by
    refine ⟨by rw [← hp.length_eq]; omega, fun x _ y _ => ?_, fun x _ => ?_, fun x _ y _ z _ => ?_, fun x _ y _ z _ => ?_, fun x hx y hy => ?_⟩
    · obtain ⟨v, h1, _⟩ := sh2_val x y
      exact ⟨v, h1⟩
    · rw [hnl]; unfold kl; omega
    · rw [hlt, hlt, hlt]; unfold kl; omega
    · rw [hnl, hnl, hnl]; unfold kl; omega
    · rw [hnl, hnl]
      intro h1 h2
      refine key_one hs hp hx hy ?_
      unfold kl at h1 h2
      omega
  unfold sortFuncL
  rw [if_pos hok]
  congr 1
  refine (uniq_sh (hp.trans (List.mergeSort_perm _ _).symm) hs ?_).symm
  have hm := List.pairwise_mergeSort (le := fun x y => !(cmpLt (fun y241 y242 => portref2_SharesOf_2 y241 y242) y x)) (by
    intro x y z h1 h2
    simp only [Bool.not_eq_true', hnl] at h1 h2 ⊢
    unfold kl at h1 h2 ⊢
    omega) (by
    intro x y
    simp only [Bool.or_eq_true, Bool.not_eq_true', hnl]
    unfold kl
    omega) B
  exact hm.imp fun h => by simpa [hnl] using h
end Go.Proofs.YtnjlojicebcikaaGreat.M
