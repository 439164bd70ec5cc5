/-
  A term of a word, a posting of an entry: by halving, and one after the other: plain part.
-/
import Derived.Test.YtkjlbaacbkdnfaaGreatDoorKnowSearchesKnwIndex
namespace Go.Proofs.YtkjlbaacbkdnfaaGreatDoor.M
open Go Go.Pu
set_option linter.unusedSimpArgs false
set_option linter.unusedVariables false

/-- the first element of a kind -/
theorem first_loop {α S R : Type} (l : List α) (p : α → Bool) (g : α → R) (s : S) (body : Nat → S → Option (Ctl S R)) (hbody : ∀ (k : Nat) (x : α), l[k]? = some x → body k s = if p x = true then some (.rt (g x)) else some (.nx s)) :
    (∀ (a : Nat) (x : α), l[a]? = some x → p x = true → (∀ (j : Nat) (y : α), j < a → l[j]? = some y → p y = false) → rangeB body l.length 0 s = some (.rt (g x))) ∧ ((∀ x ∈ l, p x = false) → rangeB body l.length 0 s = some (.fin s)) := by
  refine ⟨fun a x hx hp hn => ?_, fun hn => ?_⟩
  · obtain ⟨o, ho, hq⟩ := rangeB_spec (body := body) l.length (fun k t => k ≤ a ∧ t = s) (fun o => o = .rt (g x)) (s := s) ⟨Nat.zero_le _, rfl⟩ (by
      rintro k t hk ⟨hI, rfl⟩
      have hy : l[k]? = some l[k] := List.getElem?_eq_getElem hk
      rw [hbody k _ hy]
      rcases Nat.lt_or_eq_of_le hI with h | rfl
      · rw [if_neg (by rw [hn k _ h hy]; exact Bool.false_ne_true)]
        exact ⟨_, rfl, h, rfl⟩
      · rw [hy] at hx; cases hx
        rw [if_pos hp]
        exact ⟨_, rfl, rfl⟩) (fun t h => by
      have := (List.getElem?_eq_some_iff.1 hx).1
      exact absurd h.1 (by omega))
    rw [ho, hq]
  · obtain ⟨t, ho, rfl⟩ := rangeB_inv (b := body) l.length (fun _ t => t = s) (s := s) rfl (by
      rintro k t hk rfl
      have hy : l[k]? = some l[k] := List.getElem?_eq_getElem hk
      rw [hbody k _ hy, if_neg (by rw [hn _ (List.getElem_mem hk)]; exact Bool.false_ne_true)]
      exact ⟨_, rfl, rfl⟩)
    exact ho

theorem find_term {x : know_Index} (hx : IndexOk x) (hs : Small x) (w : ByteArray) : ∃ r, know_Index_term x w = some r ∧ portref2_termOf x w = some r ∧ (r.2 = true → r.1 ∈ x.terms ∧ r.1.word = w) ∧ (r.2 = false → r.1.list_ = [] ∧ ∀ u ∈ x.terms, u.word ≠ w) := by
  have hl := hs.terms
  unfold know_Index_term portref2_termOf
  obtain ⟨a, ha, e, hlo, hhi⟩ := search_loop (R := Int × Bool) (l := x.terms) (by omega) (fun t => some (decide (cmpS t.word w < 0))) (fun t => decide (cmpS t.word w < 0)) (fun _ _ => rfl) (fun p q t u hpq ht hu h => by
    have := hx.words p q t u hpq ht hu
    rw [decide_eq_true_eq] at h ⊢
    exact cmpS_trans this h) (fun s12 => if (decide (s12.1 < s12.2)) = true then Option.bind (Option.bind (shr .u64 (IntKind.wrap .u64 (w64 (s12.1 + s12.2))) 1) fun x32 => Option.bind (idx x.terms (IntKind.wrap .i64 x32)) fun x33 => Option.bind (know_Index_term_1 x33 w) fun x40 => Option.bind (if (decide (x40 < 0)) = true then some (w64 ((IntKind.wrap .i64 x32) + 1), s12.2) else some (s12.1, IntKind.wrap .i64 x32)) fun s45 => some (s45.1, s45.2)) fun s25 => some (.nx (s25.1, s25.2)) else some (.bk (s12.1, s12.2))) (fun s => by
    split
    · cases shr .u64 (IntKind.wrap .u64 (w64 (s.1 + s.2))) 1 with
      | none => rfl
      | some u =>
        simp only [Option.bind_some]
        cases idx x.terms (IntKind.wrap .i64 u) with
        | none => rfl
        | some t =>
          have e1 : know_Index_term_1 t w = some (cmpS t.word w) := rfl
          simp only [Option.bind_some, e1]
          split <;> rfl
    · rfl)
  obtain ⟨f1, f2⟩ := first_loop (R := know_Term × Bool) x.terms (fun t => strEq t.word w) (fun t => (t, true)) (⟨ByteArray.empty, ([] : (List know_Posting))⟩ : know_Term) (fun k26 s34 => Option.bind (idx x.terms (k26 : Int)) fun x49 => if (strEq x49.word w) = true then some (.rt (x49, true)) else some (.nx s34)) (fun k t ht => by rw [idx_nat, ht]; rfl)
  unfold slices_BinarySearchFunc_Lknow_Term_know_Term_string
  rw [e, Option.bind_some, Lp.andThen_fin]
  by_cases hf : ∃ t, x.terms[a]? = some t ∧ t.word = w
  · obtain ⟨t, ht, rfl⟩ := hf
    have hal : a < x.terms.length := (List.getElem?_eq_some_iff.1 ht).1
    have e1 : know_Index_term_1 t t.word = some (cmpS t.word t.word) := rfl
    rw [f1 a t ht (by rw [strEq_cmp]; simp) (fun j u hj hu => by
      have := hlo j u hj hu
      rw [decide_eq_true_eq] at this
      rw [strEq_cmp, decide_eq_false_iff_not, ← cmpS_zero]
      omega)]
    rw [if_pos (by rw [decide_eq_true_eq]; omega)]
    simp only [idx_nat, ht, Option.bind_some, e1, cmpS_self, beq_self_eq_true, Bool.not_true, Bool.false_eq_true, if_false]
    exact ⟨(t, true), rfl, rfl, fun _ => ⟨List.mem_of_getElem? ht, rfl⟩, fun h => by cases h⟩
  · have hno : ∀ u ∈ x.terms, strEq u.word w = false := fun u hu => by
      obtain ⟨q, hq⟩ := List.mem_iff_getElem?.1 hu
      rw [strEq_cmp, decide_eq_false_iff_not]
      intro huw
      rcases Nat.lt_trichotomy q a with h | h | h
      · have := hlo q u h hq
        rw [huw, cmpS_self] at this
        cases this
      · exact hf ⟨u, by rw [← h]; exact hq, huw⟩
      · have hal : a < x.terms.length := by have := (List.getElem?_eq_some_iff.1 hq).1; omega
        have h1 := hhi a _ (Nat.le_refl _) (List.getElem?_eq_getElem hal)
        have h2 := hx.words a q _ u h (List.getElem?_eq_getElem hal) hq
        rw [decide_eq_false_iff_not] at h1
        rw [huw] at h2
        exact h1 h2
    rw [f2 hno]
    refine ⟨((⟨ByteArray.empty, ([] : (List know_Posting))⟩ : know_Term), false), ?_, rfl, (fun h => by cases h), fun _ => ⟨rfl, fun u hu h => by have := hno u hu; rw [strEq_cmp, decide_eq_false_iff_not] at this; exact this h⟩⟩
    by_cases hal : a < x.terms.length
    · have ht : x.terms[a]? = some x.terms[a] := List.getElem?_eq_getElem hal
      rw [if_pos (by rw [decide_eq_true_eq]; omega)]
      have hne : cmpS x.terms[a].word w ≠ 0 := fun h => hf ⟨_, ht, (cmpS_zero _ _).1 h⟩
      generalize x.terms[a] = t at ht hne
      have e1 : know_Index_term_1 t w = some (cmpS t.word w) := rfl
      have e2 : (cmpS t.word w == 0) = false := by rw [beq_eq_false_iff_ne]; exact hne
      simp only [idx_nat, ht, Option.bind_some, e1, e2, Bool.not_false, if_true]
    · rw [if_neg (by rw [decide_eq_true_eq]; omega)]
      rfl

theorem compare_ii (x y : Int) : cmp_Compare_int x y = (if x < y then -1 else if y < x then 1 else 0) := by
  unfold cmp_Compare_int cmp_isNaN_int
  simp
theorem find_post {t : know_Term} (ht : ∀ (i j : Nat) (p q : know_Posting), i < j → t.list_[i]? = some p → t.list_[j]? = some q → p.id_ < q.id_) (hl : t.list_.length ≤ 1048576) (id : Int) : ∃ r, know_Term_posting t id = some r ∧ portref2_postingOf t id = some r ∧ (r.2 = true → r.1 ∈ t.list_ ∧ r.1.id_ = id) ∧ (r.2 = false → r.1.title = [] ∧ r.1.body = [] ∧ ∀ u ∈ t.list_, u.id_ ≠ id) := by
  unfold know_Term_posting portref2_postingOf
  have e0 : ∀ p : know_Posting, ∃ c, know_Term_posting_1 p id = some c ∧ (decide (c < 0) = decide (p.id_ < id)) ∧ ((c == 0) = decide (p.id_ = id)) := fun p => by
    unfold know_Term_posting_1
    rw [compare_ii]
    refine ⟨_, rfl, ?_, ?_⟩
    · rw [Bool.eq_iff_iff, decide_eq_true_eq, decide_eq_true_eq]
      split
      · omega
      · split <;> omega
    · rw [Bool.eq_iff_iff, beq_iff_eq, decide_eq_true_eq]
      split
      · omega
      · split <;> omega
  obtain ⟨a, ha, e, hlo, hhi⟩ := search_loop (R := Int × Bool) (l := t.list_) (by omega) (fun p => some (decide (p.id_ < id))) (fun p => decide (p.id_ < id)) (fun _ _ => rfl) (fun p q u v hpq hu hv h => by
    have := ht p q u v hpq hu hv
    rw [decide_eq_true_eq] at h ⊢
    omega) (fun s12 => if (decide (s12.1 < s12.2)) = true then Option.bind (Option.bind (shr .u64 (IntKind.wrap .u64 (w64 (s12.1 + s12.2))) 1) fun x32 => Option.bind (idx t.list_ (IntKind.wrap .i64 x32)) fun x33 => Option.bind (know_Term_posting_1 x33 id) fun x42 => Option.bind (if (decide (x42 < 0)) = true then some (w64 ((IntKind.wrap .i64 x32) + 1), s12.2) else some (s12.1, IntKind.wrap .i64 x32)) fun s47 => some (s47.1, s47.2)) fun s25 => some (.nx (s25.1, s25.2)) else some (.bk (s12.1, s12.2))) (fun s => by
    split
    · cases shr .u64 (IntKind.wrap .u64 (w64 (s.1 + s.2))) 1 with
      | none => rfl
      | some u =>
        simp only [Option.bind_some]
        cases idx t.list_ (IntKind.wrap .i64 u) with
        | none => rfl
        | some p =>
          obtain ⟨c, c1, c2, _⟩ := e0 p
          simp only [Option.bind_some, c1, c2]
          split <;> rfl
    · rfl)
  obtain ⟨f1, f2⟩ := first_loop (R := know_Posting × Bool) t.list_ (fun p => p.id_ == id) (fun p => (p, true)) (⟨0, ([] : (List Int)), ([] : (List Int))⟩ : know_Posting) (fun k21 s31 => Option.bind (idx t.list_ (k21 : Int)) fun x49 => if (x49.id_ == id) = true then some (.rt (x49, true)) else some (.nx s31)) (fun k p hp => by rw [idx_nat, hp]; rfl)
  unfold slices_BinarySearchFunc_Lknow_Posting_know_Posting_int
  rw [e, Option.bind_some, Lp.andThen_fin]
  by_cases hf : ∃ p, t.list_[a]? = some p ∧ p.id_ = id
  · obtain ⟨p, hp, hpi⟩ := hf
    have hal : a < t.list_.length := (List.getElem?_eq_some_iff.1 hp).1
    obtain ⟨c, c1, _, c3⟩ := e0 p
    rw [f1 a p hp (by simpa using hpi) (fun j u hj hu => by
      have := hlo j u hj hu
      rw [decide_eq_true_eq] at this
      rw [beq_eq_false_iff_ne]
      omega)]
    rw [if_pos (by rw [decide_eq_true_eq]; omega)]
    have c3' : (c == 0) = true := by rw [c3]; simpa using hpi
    simp only [idx_nat, hp, Option.bind_some, c1, c3', Bool.not_true, Bool.false_eq_true, if_false]
    exact ⟨(p, true), rfl, rfl, fun _ => ⟨List.mem_of_getElem? hp, hpi⟩, fun h => by cases h⟩
  · have hno : ∀ u ∈ t.list_, (u.id_ == id) = false := fun u hu => by
      obtain ⟨q, hq⟩ := List.mem_iff_getElem?.1 hu
      rw [beq_eq_false_iff_ne]
      intro hui
      rcases Nat.lt_trichotomy q a with h | h | h
      · have := hlo q u h hq
        rw [decide_eq_true_eq] at this
        omega
      · exact hf ⟨u, by rw [← h]; exact hq, hui⟩
      · have hal : a < t.list_.length := by have := (List.getElem?_eq_some_iff.1 hq).1; omega
        have h1 := hhi a _ (Nat.le_refl _) (List.getElem?_eq_getElem hal)
        have h2 := ht a q _ u h (List.getElem?_eq_getElem hal) hq
        rw [decide_eq_false_iff_not] at h1
        omega
    rw [f2 hno]
    refine ⟨((⟨0, ([] : (List Int)), ([] : (List Int))⟩ : know_Posting), false), ?_, rfl, (fun h => by cases h), fun _ => ⟨rfl, rfl, fun u hu h => by have := hno u hu; rw [beq_eq_false_iff_ne] at this; exact this h⟩⟩
    by_cases hal : a < t.list_.length
    · have hp : t.list_[a]? = some t.list_[a] := List.getElem?_eq_getElem hal
      rw [if_pos (by rw [decide_eq_true_eq]; omega)]
      have hne : t.list_[a].id_ ≠ id := fun h => hf ⟨_, hp, h⟩
      generalize t.list_[a] = p at hp hne
      obtain ⟨c, c1, _, c3⟩ := e0 p
      have c3' : (c == 0) = false := by rw [c3]; simpa using hne
      simp only [idx_nat, hp, Option.bind_some, c1, c3', Bool.not_false, if_true]
    · rw [if_neg (by rw [decide_eq_true_eq]; omega)]
      rfl
end Go.Proofs.YtkjlbaacbkdnfaaGreatDoor.M
