/-
  The sweep is its reference: plain part.
-/
import Derived.Test.YtcebkcahemiaoaaCalSetsSweepBase
import Derived.Test.YtcebkcahemiaoaaPq
namespace Go.Proofs.Ytcebkcahemiaoaa.M
open Go Go.Pu
set_option linter.unusedSimpArgs false
set_option linter.unusedVariables false

theorem mem_flatK {α β : Type} {f : Nat → α → List β} {y : β} (l : List α) : ∀ k, y ∈ flatK f k l → ∃ j x, l[j]? = some x ∧ y ∈ f (k + j) x := by
  induction l with
  | nil => intro k h; simp [flatK] at h
  | cons x l ih =>
    intro k h
    rw [flatK, List.mem_append] at h
    rcases h with h | h
    · exact ⟨0, x, rfl, h⟩
    · obtain ⟨j, y', h1, h2⟩ := ih (k + 1) h
      exact ⟨j + 1, y', by simpa using h1, by rw [show k + (j + 1) = k + 1 + j by omega]; exact h2⟩
theorem edges_ok (lists : List (List cal_Span)) {e : cal_edge} (h : e ∈ edgesL lists) : (∃ k : Nat, k < lists.length ∧ e.list_ = (k : Int)) ∧ (e.by_ = 1 ∨ e.by_ = -1) := by
  obtain ⟨j, x, h1, h2⟩ := mem_flatK _ _ h
  obtain ⟨i, s, _, h3⟩ := mem_flatK _ _ h2
  have hj := (List.getElem?_eq_some_iff.1 h1).1
  simp only [ends2, List.mem_cons, List.not_mem_nil, or_false, Nat.zero_add] at h3
  rcases h3 with rfl | rfl
  · exact ⟨⟨j, hj, rfl⟩, Or.inl rfl⟩
  · exact ⟨⟨j, hj, rfl⟩, Or.inr rfl⟩
theorem uniqA_same (a : Int) (p q : List Int) (h : ∀ x ∈ p, x = a) : uniqA (some a) (p ++ q) = uniqA (some a) q := by
  induction p with
  | nil => rfl
  | cons x p ih => rw [List.cons_append, uniqA, if_pos (by rw [h x (by simp)]), ih (fun y hy => h y (by simp [hy]))]
theorem uniqA_other (a : Int) (q : List Int) (h : q.head? ≠ some a) : uniqA (some a) q = uniqA none q := by
  cases q with
  | nil => rfl
  | cons x q => rw [uniqA, uniqA, if_neg (by simpa [eq_comm] using h), if_neg (by simp)]
theorem joinK {T : Type} (out : List cal_Span) (a b : Int) (K : List cal_Span → Option T) (h : out.length < 8796093022208) :
    (Option.bind (if (decide ((0 : Int) < (out.length : Int))) = true then (Option.bind (idx out (w64 ((out.length : Int) - 1))) fun x => some (x.to_ == a)) else (some false)) fun s => Option.bind (if s = true then Option.bind (idx out (w64 ((out.length : Int) - 1))) fun x => Option.bind (setI out (w64 ((out.length : Int) - 1)) ({ (x : cal_Span) with to_ := b })) fun y => some y else Option.bind (appendL 8796093022208 out ([(⟨a, b⟩ : cal_Span)] : List cal_Span)) fun y => some y) K) = K (stepJ out a b) := by
  unfold stepJ
  rcases List.eq_nil_or_concat out with rfl | ⟨l0, x, rfl⟩
  · simp [appendL]
  · have hlen : (((l0.concat x).length : Int) - 1) = (l0.length : Int) := by simp
    have hw2 : w64 (((l0.concat x).length : Int) - 1) = (l0.length : Int) := by rw [hlen]; simp at h; exact w64_id (by omega) (by omega)
    have hpos : (0 : Int) < ((l0.concat x).length : Int) := by rw [List.length_concat]; omega
    have hg : (l0.concat x)[l0.length]? = some x := by simp
    simp only [hpos, decide_true, if_true, hw2, idx_nat, hg, Option.bind_some]
    rw [List.concat_eq_append, List.getLast?_concat]
    simp only
    by_cases hx : x.to_ = a
    · have hxb : (x.to_ == a) = true := by simpa using hx
      have hs : setI (l0 ++ [x]) (l0.length : Int) ({ x with to_ := b } : cal_Span) = some (l0 ++ [⟨x.from_, b⟩]) := by
        rw [setI, if_pos ⟨by omega, by simp⟩]
        congr 1
        rw [Int.toNat_natCast, List.set_append_right _ _ (by simp)]
        simp
      rw [if_pos hx, List.dropLast_concat]
      simp only [hxb, if_true, hs, Option.bind_some]
    · have hxb : (x.to_ == a) = false := by simpa using hx
      simp only [hxb, Bool.false_eq_true, if_false, hx]
      rw [appendL, if_pos (by rw [List.concat_eq_append] at h; simp at h ⊢; omega)]
      rfl
/-- the reference's loop over the cuts -/
theorem cuts_val (holds : Int → Option Bool) (H : Int → Bool) (hh : ∀ a, holds a = some (H a)) (x109 : List Int) (hn : x109.length ≤ 1000000000) :
    ∃ q, whileB (R := List cal_Span) (fun s125 : List cal_Span × Int => if (decide ((w64 (s125.2 + 1)) < (x109.length : Int))) = true then Option.bind (Option.bind (idx x109 s125.2) fun x149 => Option.bind (holds x149) fun x154 => if (!x154) = true then some s125.1 else Option.bind (if (decide ((0 : Int) < (s125.1.length : Int))) = true then (Option.bind (idx s125.1 (w64 ((s125.1.length : Int) - 1))) fun x163 => some (x163.to_ == x149)) else (some false)) fun s162 => Option.bind (if s162 = true then Option.bind (idx x109 (w64 (s125.2 + 1))) fun x187 => Option.bind (idx s125.1 (w64 ((s125.1.length : Int) - 1))) fun x192 => Option.bind (setI s125.1 (w64 ((s125.1.length : Int) - 1)) ({ (x192 : cal_Span) with to_ := x187 })) fun x198 => some x198 else Option.bind (idx x109 (w64 (s125.2 + 1))) fun x210 => Option.bind (appendL 8796093022208 s125.1 ([(⟨x149, x210⟩ : cal_Span)] : List cal_Span)) fun x220 => some x220) fun s177 => some s177) fun s140 => some (.nx (s140, w64 (s125.2 + 1))) else some (.bk (s125.1, s125.2))) (([] : (List cal_Span)), 0) = some (.fin (mergeF H x109 [], q)) := by
  obtain ⟨o, ho, l, q, rfl, hl⟩ := whileB_spec (R := List cal_Span) (body := fun s125 : List cal_Span × Int => if (decide ((w64 (s125.2 + 1)) < (x109.length : Int))) = true then Option.bind (Option.bind (idx x109 s125.2) fun x149 => Option.bind (holds x149) fun x154 => if (!x154) = true then some s125.1 else Option.bind (if (decide ((0 : Int) < (s125.1.length : Int))) = true then (Option.bind (idx s125.1 (w64 ((s125.1.length : Int) - 1))) fun x163 => some (x163.to_ == x149)) else (some false)) fun s162 => Option.bind (if s162 = true then Option.bind (idx x109 (w64 (s125.2 + 1))) fun x187 => Option.bind (idx s125.1 (w64 ((s125.1.length : Int) - 1))) fun x192 => Option.bind (setI s125.1 (w64 ((s125.1.length : Int) - 1)) ({ (x192 : cal_Span) with to_ := x187 })) fun x198 => some x198 else Option.bind (idx x109 (w64 (s125.2 + 1))) fun x210 => Option.bind (appendL 8796093022208 s125.1 ([(⟨x149, x210⟩ : cal_Span)] : List cal_Span)) fun x220 => some x220) fun s177 => some s177) fun s140 => some (.nx (s140, w64 (s125.2 + 1))) else some (.bk (s125.1, s125.2)))
    (fun s => ∃ j : Nat, s.2 = (j : Int) ∧ j ≤ x109.length ∧ s.1.length ≤ j ∧ mergeF H (x109.drop j) s.1 = mergeF H x109 []) (fun s => x109.length - s.2.toNat) (fun o => ∃ l q, o = .fin (l, q) ∧ l = mergeF H x109 []) (s := ([], 0))
    ⟨0, rfl, by omega, by simp, by simp⟩ (by
      rintro ⟨out, m⟩ ⟨j, rfl, i1, i2, i3⟩
      simp only at i1 i2 i3 ⊢
      have hw1 : w64 ((j : Int) + 1) = (((j + 1 : Nat)) : Int) := by rw [w64_id (by omega) (by omega)]; rfl
      by_cases hm : j + 1 < x109.length
      rotate_left
      · rw [hw1]
        simp only [show ¬ (((j + 1 : Nat) : Int) < (x109.length : Int)) by omega, decide_false, Bool.false_eq_true, if_false]
        refine ⟨_, rfl, out, j, rfl, ?_⟩
        rw [← i3]
        have : (x109.drop j).length ≤ 1 := by rw [List.length_drop]; omega
        match hd : x109.drop j, this with
        | [], _ => rfl
        | [_], _ => rfl
      have hd : x109.drop j = x109[j] :: x109[j + 1] :: x109.drop (j + 1 + 1) := by rw [List.drop_eq_getElem_cons (by omega), List.drop_eq_getElem_cons hm]
      rw [hw1]
      simp only [show (((j + 1 : Nat) : Int) < (x109.length : Int)) by omega, decide_true, if_true, idx_lt _ _ hm, idx_lt x109 j (by omega), Option.bind_some, hh]
      rw [hd, mergeF] at i3
      cases hb : H x109[j] with
      | false =>
        rw [hb, if_neg (by simp)] at i3
        simp only [Bool.not_false, if_true, Option.bind_some]
        refine ⟨_, rfl, ⟨j + 1, rfl, by omega, by simp only; omega, ?_⟩, by simp only; omega⟩
        rw [List.drop_eq_getElem_cons hm]
        exact i3
      | true =>
        rw [hb, if_pos rfl] at i3
        simp only [Bool.not_true, Bool.false_eq_true, if_false]
        rw [joinK out x109[j] x109[j + 1] (fun s177 => some s177) (by omega), Option.bind_some]
        have := stepJ_len out x109[j] x109[j + 1]
        refine ⟨_, rfl, ⟨j + 1, rfl, by omega, by simp only; omega, ?_⟩, by simp only; omega⟩
        rw [List.drop_eq_getElem_cons hm]
        exact i3)
  exact ⟨q, by rw [ho, hl]⟩
theorem swept_lt (x y : cal_edge) : (cal_swept_1 x y).getD 0 < 0 ↔ x.at_ < y.at_ := by
  unfold cal_swept_1 cmp_Compare_int cmp_isNaN_int
  simp only [bne_self_eq_false, Bool.false_eq_true, if_false, Option.getD_some, decide_eq_true_eq]
  repeat' split
  all_goals omega
theorem swept_swo : Go.Sort.SWO (fun x y : cal_edge => decide ((cal_swept_1 x y).getD 0 < 0)) := by
  refine ⟨?_, ?_, ?_⟩
  · intro x; rw [decide_eq_false_iff_not, swept_lt]; omega
  · intro x y z; rw [decide_eq_true_eq, decide_eq_true_eq, decide_eq_true_eq, swept_lt, swept_lt, swept_lt]; omega
  · intro x y z; rw [decide_eq_false_iff_not, decide_eq_false_iff_not, decide_eq_false_iff_not, swept_lt, swept_lt, swept_lt]; omega
theorem sorted_unique : ∀ (l m : List Int), l.Perm m → l.Pairwise (· ≤ ·) → m.Pairwise (· ≤ ·) → l = m := by
  intro l
  induction l with
  | nil => intro m h _ _; exact (List.nil_perm.1 h).symm
  | cons a l ih =>
    intro m h hl hm
    cases m with
    | nil => exact absurd h.length_eq (by simp)
    | cons b m =>
      rw [List.pairwise_cons] at hl hm
      have hab : a = b := by
        have h1 := h.mem_iff.1 (List.mem_cons_self (a := a) (l := l))
        have h2 := h.mem_iff.2 (List.mem_cons_self (a := b) (l := m))
        rcases List.mem_cons.1 h1 with e | e
        · exact e
        · rcases List.mem_cons.1 h2 with e' | e'
          · exact e'.symm
          · have := hm.1 a e; have := hl.1 b e'; omega
      subst hab
      rw [ih m ((List.perm_cons a).1 h) hl.2 hm.2]
/-- the sweep's loop over the edges -/
theorem sweep_val (lists : List (List cal_Span)) (wanted : List Int → Option Bool) (H : Int → Bool) (hl : ∀ l ∈ lists, ∀ s ∈ l, s.from_ < s.to_) (hw : ∀ a, wanted (countsAt lists a) = some (H a))
    (x107 : List cal_edge) (hp : x107.Perm (edgesL lists)) (hs : ∀ (s t : Nat) (x y : cal_edge), s ≤ t → x107[s]? = some x → x107[t]? = some y → x.at_ ≤ y.at_) (hn : x107.length ≤ 1000000000) :
    ∃ c q, whileB (R := List cal_Span) (fun s130 : List Int × List cal_Span × Int => if (decide (s130.2.2 < (x107.length : Int))) = true then Option.bind (Option.bind (idx x107 s130.2.2) fun x158 => Option.bind (whileB (R := Empty) (fun s175 : List Int × Int => Option.bind (if (decide (s175.2 < (x107.length : Int))) = true then (Option.bind (idx x107 s175.2) fun x190 => some (x190.at_ == x158.at_)) else (some false)) fun s189 => if s189 = true then Option.bind (idx x107 s175.2) fun x197 => Option.bind (idx s175.1 x197.list_) fun x203 => Option.bind (setI s175.1 x197.list_ (w64 (x203 + x197.by_))) fun x220 => some (.nx (x220, w64 (s175.2 + 1))) else some (.bk (s175.1, s175.2))) (s130.1, s130.2.2)) fun o164 => o164.andThen (fun y => y.elim) fun s165 => Option.bind (if (s165.2 == (x107.length : Int)) = true then (some true) else (Option.bind (wanted s165.1) fun x237 => some (!x237))) fun s228 => if s228 = true then some (s165.1, s130.2.1, s165.2) else Option.bind (idx x107 s165.2) fun x244 => Option.bind (if (decide ((0 : Int) < (s130.2.1.length : Int))) = true then (Option.bind (idx s130.2.1 (w64 ((s130.2.1.length : Int) - 1))) fun x260 => some (x260.to_ == ((⟨x158.at_, x244.at_⟩ : cal_Span).from_))) else (some false)) fun s259 => Option.bind (if s259 = true then Option.bind (idx s130.2.1 (w64 ((s130.2.1.length : Int) - 1))) fun x282 => Option.bind (setI s130.2.1 (w64 ((s130.2.1.length : Int) - 1)) ({ (x282 : cal_Span) with to_ := (⟨x158.at_, x244.at_⟩ : cal_Span).to_ })) fun x288 => some x288 else Option.bind (appendL 8796093022208 s130.2.1 ([(⟨x158.at_, x244.at_⟩ : cal_Span)] : List cal_Span)) fun x301 => some x301) fun s271 => some (s165.1, s271, s165.2)) fun s147 => some (.nx (s147.1, s147.2.1, s147.2.2)) else some (.bk (s130.1, s130.2.1, s130.2.2))) (List.replicate lists.length 0, ([] : (List cal_Span)), 0) = some (.fin (c, mergeF H (uniqA none (x107.map (·.at_))) [], q)) := by
  obtain ⟨o, ho, c, l, q, rfl, hlast⟩ := whileB_spec (R := List cal_Span) (body := fun s130 : List Int × List cal_Span × Int => if (decide (s130.2.2 < (x107.length : Int))) = true then Option.bind (Option.bind (idx x107 s130.2.2) fun x158 => Option.bind (whileB (R := Empty) (fun s175 : List Int × Int => Option.bind (if (decide (s175.2 < (x107.length : Int))) = true then (Option.bind (idx x107 s175.2) fun x190 => some (x190.at_ == x158.at_)) else (some false)) fun s189 => if s189 = true then Option.bind (idx x107 s175.2) fun x197 => Option.bind (idx s175.1 x197.list_) fun x203 => Option.bind (setI s175.1 x197.list_ (w64 (x203 + x197.by_))) fun x220 => some (.nx (x220, w64 (s175.2 + 1))) else some (.bk (s175.1, s175.2))) (s130.1, s130.2.2)) fun o164 => o164.andThen (fun y => y.elim) fun s165 => Option.bind (if (s165.2 == (x107.length : Int)) = true then (some true) else (Option.bind (wanted s165.1) fun x237 => some (!x237))) fun s228 => if s228 = true then some (s165.1, s130.2.1, s165.2) else Option.bind (idx x107 s165.2) fun x244 => Option.bind (if (decide ((0 : Int) < (s130.2.1.length : Int))) = true then (Option.bind (idx s130.2.1 (w64 ((s130.2.1.length : Int) - 1))) fun x260 => some (x260.to_ == ((⟨x158.at_, x244.at_⟩ : cal_Span).from_))) else (some false)) fun s259 => Option.bind (if s259 = true then Option.bind (idx s130.2.1 (w64 ((s130.2.1.length : Int) - 1))) fun x282 => Option.bind (setI s130.2.1 (w64 ((s130.2.1.length : Int) - 1)) ({ (x282 : cal_Span) with to_ := (⟨x158.at_, x244.at_⟩ : cal_Span).to_ })) fun x288 => some x288 else Option.bind (appendL 8796093022208 s130.2.1 ([(⟨x158.at_, x244.at_⟩ : cal_Span)] : List cal_Span)) fun x301 => some x301) fun s271 => some (s165.1, s271, s165.2)) fun s147 => some (.nx (s147.1, s147.2.1, s147.2.2)) else some (.bk (s130.1, s130.2.1, s130.2.2)))
    (fun s => ∃ j : Nat, s.2.2 = (j : Int) ∧ j ≤ x107.length ∧ s.2.1.length ≤ j ∧ s.1 = cntsOf lists.length (x107.take j) ∧ mergeF H (uniqA none ((x107.drop j).map (·.at_))) s.2.1 = mergeF H (uniqA none (x107.map (·.at_))) []) (fun s => x107.length - s.2.2.toNat) (fun o => ∃ c l q, o = .fin (c, l, q) ∧ l = mergeF H (uniqA none (x107.map (·.at_))) []) (s := (List.replicate lists.length 0, [], 0))
    ⟨0, rfl, by omega, by simp, by rw [List.take_zero, cntsOf_nil], by simp⟩ (by
      rintro ⟨cs, out, m⟩ ⟨i, rfl, i1, i2, rfl, i3⟩
      simp only at i1 i2 i3 ⊢
      by_cases hm : i < x107.length
      rotate_left
      · simp only [show ¬ ((i : Int) < (x107.length : Int)) by omega, decide_false, Bool.false_eq_true, if_false]
        refine ⟨_, rfl, _, out, _, rfl, ?_⟩
        rw [← i3, List.drop_eq_nil_of_le (by omega)]
        rfl
      simp only [show ((i : Int) < (x107.length : Int)) by omega, decide_true, if_true, idx_lt _ _ hm, Option.bind_some]
      obtain ⟨o2, ho2, j, rfl, j1, j2, j3, j4⟩ := whileB_spec (R := Empty) (body := fun s175 : List Int × Int => Option.bind (if (decide (s175.2 < (x107.length : Int))) = true then (Option.bind (idx x107 s175.2) fun x190 => some (x190.at_ == x107[i].at_)) else (some false)) fun s189 => if s189 = true then Option.bind (idx x107 s175.2) fun x197 => Option.bind (idx s175.1 x197.list_) fun x203 => Option.bind (setI s175.1 x197.list_ (w64 (x203 + x197.by_))) fun x220 => some (.nx (x220, w64 (s175.2 + 1))) else some (.bk (s175.1, s175.2)))
        (fun s => ∃ j : Nat, s = (cntsOf lists.length (x107.take j), (j : Int)) ∧ i ≤ j ∧ j ≤ x107.length ∧ ∀ t x, i ≤ t → t < j → x107[t]? = some x → x.at_ = x107[i].at_) (fun s => x107.length - s.2.toNat)
        (fun o => ∃ j : Nat, o = .fin (cntsOf lists.length (x107.take j), (j : Int)) ∧ i < j ∧ j ≤ x107.length ∧ (∀ t x, i ≤ t → t < j → x107[t]? = some x → x.at_ = x107[i].at_) ∧ ∀ x, x107[j]? = some x → x.at_ ≠ x107[i].at_) (s := (cntsOf lists.length (x107.take i), (i : Int)))
        ⟨i, rfl, Nat.le_refl _, by omega, fun t x h1 h2 => by omega⟩ (by
          rintro ⟨cs, m⟩ ⟨j, he, j1, j2, j3⟩
          obtain ⟨rfl, rfl⟩ := Prod.mk.inj he
          simp only
          by_cases hj : j < x107.length
          rotate_left
          · simp only [show ¬ ((j : Int) < (x107.length : Int)) by omega, decide_false, Bool.false_eq_true, if_false, Option.bind_some]
            exact ⟨_, rfl, j, rfl, by omega, j2, j3, fun x hx => by rw [List.getElem?_eq_none (by omega)] at hx; cases hx⟩
          simp only [show ((j : Int) < (x107.length : Int)) by omega, decide_true, if_true, idx_lt _ _ hj, Option.bind_some]
          by_cases hat : x107[j].at_ = x107[i].at_
          rotate_left
          · rw [show (x107[j].at_ == x107[i].at_) = false by simpa using hat, if_neg (by simp)]
            refine ⟨_, rfl, j, rfl, ?_, j2, j3, fun x hx => by rw [List.getElem?_eq_getElem hj] at hx; cases hx; exact hat⟩
            rcases Nat.lt_or_ge i j with h | h
            · exact h
            · obtain rfl : i = j := by omega
              exact absurd rfl hat
          rw [show (x107[j].at_ == x107[i].at_) = true by simpa using hat, if_pos rfl]
          obtain ⟨⟨k, hk, hke⟩, hby⟩ := edges_ok lists (hp.mem_iff.1 (List.getElem_mem hj))
          have hbd := cnt_bound k (x107.take j) (fun e he => (edges_ok lists (hp.mem_iff.1 (List.mem_of_mem_take he))).2)
          rw [List.length_take, Nat.min_eq_left j2] at hbd
          have hg : (cntsOf lists.length (x107.take j))[k]? = some (cnt k (x107.take j)) := by
            unfold cntsOf
            rw [List.getElem?_map, List.getElem?_range hk]
            rfl
          simp only [hke, idx_nat, hg, Option.bind_some]
          rw [setI, if_pos ⟨by omega, by rw [cntsOf_len]; omega⟩, Option.bind_some, w64_id (by omega) (by omega), w64_id (n := (j : Int) + 1) (by omega) (by omega), Int.toNat_natCast, cntsOf_snoc _ _ _ k hk hke]
          refine ⟨_, rfl, ⟨j + 1, ?_, by omega, by omega, ?_⟩, by simp only; omega⟩
          · rw [List.take_add_one, List.getElem?_eq_getElem hj]
            rfl
          · intro t x h1 h2 h3
            rcases Nat.lt_or_ge t j with h | h
            · exact j3 t x h1 h h3
            · obtain rfl : t = j := by omega
              rw [List.getElem?_eq_getElem hj] at h3
              cases h3
              exact hat)
      rw [ho2, Option.bind_some, Lp.andThen_fin]
      have hu : uniqA none ((x107.drop i).map (·.at_)) = x107[i].at_ :: uniqA none ((x107.drop j).map (·.at_)) := by
        rw [List.drop_eq_getElem_cons hm, List.map_cons, uniqA, if_neg (by simp)]
        have e : x107.drop (i + 1) = (x107.drop (i + 1)).take (j - (i + 1)) ++ x107.drop j := by
          conv => lhs; rw [← List.take_append_drop (j - (i + 1)) (x107.drop (i + 1))]
          rw [List.drop_drop, show i + 1 + (j - (i + 1)) = j by omega]
        rw [e, List.map_append, uniqA_same, uniqA_other]
        · intro h
          rw [List.head?_map, List.head?_drop] at h
          cases hx : x107[j]? with
          | none => rw [hx] at h; cases h
          | some x => rw [hx] at h; exact j4 x hx (Option.some.inj h)
        · intro x hx
          obtain ⟨y, hy, rfl⟩ := List.mem_map.1 hx
          obtain ⟨t, ht⟩ := List.mem_iff_getElem?.1 hy
          rw [List.getElem?_take] at ht
          split at ht
          · rw [List.getElem?_drop] at ht
            exact j3 _ _ (by omega) (by omega) ht
          · cases ht
      rw [hu] at i3
      by_cases hj : j = x107.length
      · subst hj
        simp only [beq_self_eq_true, if_true, Option.bind_some]
        refine ⟨_, rfl, ⟨_, rfl, by omega, by simp only; omega, rfl, ?_⟩, by simp only; omega⟩
        rw [← i3, List.drop_eq_nil_of_le (by omega)]
        rfl
      have hj' : j < x107.length := by omega
      have hcs : cntsOf lists.length (x107.take j) = countsAt lists x107[i].at_ := by
        refine counts_at lists hl hp _ (List.take_append_drop j x107).symm ?_ ?_
        · intro e he
          obtain ⟨t, ht⟩ := List.mem_iff_getElem?.1 he
          rw [List.getElem?_take] at ht
          split at ht
          · rcases Nat.lt_or_ge t i with h | h
            · exact hs t i e _ (by omega) ht (List.getElem?_eq_getElem hm)
            · exact Int.le_of_eq (j3 t e h (by omega) ht)
          · cases ht
        · intro e he
          obtain ⟨t, ht⟩ := List.mem_iff_getElem?.1 he
          rw [List.getElem?_drop] at ht
          have h1 := hs i j _ _ (by omega) (List.getElem?_eq_getElem hm) (List.getElem?_eq_getElem hj')
          have h2 := hs j (j + t) _ _ (by omega) (List.getElem?_eq_getElem hj') ht
          have h3 := j4 _ (List.getElem?_eq_getElem hj')
          omega
      simp only [show ((j : Int) == (x107.length : Int)) = false by simp; omega, Bool.false_eq_true, if_false, hcs, hw, Option.bind_some, idx_lt _ _ hj']
      have hu2 : uniqA none ((x107.drop j).map (·.at_)) = x107[j].at_ :: uniqA (some x107[j].at_) ((x107.drop (j + 1)).map (·.at_)) := by
        rw [List.drop_eq_getElem_cons hj', List.map_cons, uniqA, if_neg (by simp)]
      rw [hu2, mergeF, ← hu2] at i3
      cases hb : H x107[i].at_ with
      | false =>
        rw [hb, if_neg (by simp)] at i3
        simp only [Bool.not_false, if_true, Option.bind_some]
        exact ⟨_, rfl, ⟨j, rfl, by omega, by simp only; omega, hcs.symm, i3⟩, by simp only; omega⟩
      | true =>
        rw [hb, if_pos rfl] at i3
        simp only [Bool.not_true, Bool.false_eq_true, if_false]
        rw [joinK out x107[i].at_ x107[j].at_ (fun s271 => some (countsAt lists x107[i].at_, s271, (j : Int))) (by omega), Option.bind_some]
        have := stepJ_len out x107[i].at_ x107[j].at_
        exact ⟨_, rfl, ⟨j, rfl, by omega, by simp only; omega, hcs.symm, i3⟩, by simp only; omega⟩)
  exact ⟨c, q, by rw [ho, hlast]⟩
end Go.Proofs.Ytcebkcahemiaoaa.M
