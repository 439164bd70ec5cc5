/-
  The terms that a part names: code and reference name the same, in another order: plain part.
-/
import Derived.Test.YtkjlbaacbkdnfaaGreatDoorKnowSearchesKnwScore
import Derived.Test.YtkjlbaacbkdnfaaGreatDoorKnowSearchesKnwQuery
namespace Go.Proofs.YtkjlbaacbkdnfaaGreatDoor.M
open Go Go.Pu
set_option linter.unusedSimpArgs false
set_option linter.unusedVariables false

noncomputable def stemV (w : ByteArray) : ByteArray := (know_Stem w).getD w
theorem stem_val (w : ByteArray) (hw : w.size ≤ 1000000000000) : know_Stem w = some (stemV w) ∧ portref2_StemOf w = some (stemV w) := by
  obtain ⟨r, h1, h2⟩ := stem_eq w hw
  unfold stemV
  rw [h1, h2]
  exact ⟨rfl, rfl⟩
theorem terms_nodup {x : know_Index} (hx : IndexOk x) : x.terms.Nodup := by
  rw [List.Nodup, List.pairwise_iff_getElem]
  intro i j hi hj hij h
  have := hx.words i j _ _ hij (List.getElem?_eq_getElem hi) (List.getElem?_eq_getElem hj)
  rw [h, cmpS_self] at this
  cases this

theorem named_mem {x : know_Index} (hx : IndexOk x) (hs : Small x) (ws : List ByteArray) (hw : ∀ w ∈ ws, w.size ≤ 30) (hn : ws.length ≤ 1048576) :
    ∃ L m, rangeB (R := List know_Term) (fun k142 s150 => Option.bind (Option.bind (idx ws (k142 : Int)) fun x175 => Option.bind (know_Stem x175) fun x179 => Option.bind (know_Index_term x x179) fun x187 => Option.bind (if (x187.2 && (!((mapGet s150.2 x179).getD false))) = true then Option.bind (appendL 3518437208883 s150.1 ([x187.1] : List know_Term)) fun x231 => some (x231, (mapPut s150.2 x179 true)) else some (s150.1, s150.2)) fun s207 => some (s207.1, s207.2)) fun s166 => some (.nx (s166.1, s166.2))) ws.length 0 (([] : (List know_Term)), ([] : List (ByteArray × Bool))) = some (.fin (L, m)) ∧ L.Nodup ∧ ∀ t, t ∈ L ↔ t ∈ x.terms ∧ ∃ w ∈ ws, t.word = stemV w := by
  obtain ⟨⟨L, m⟩, h, h1, h2, _⟩ := rangeB_inv (R := List know_Term) (b := fun k142 s150 => Option.bind (Option.bind (idx ws (k142 : Int)) fun x175 => Option.bind (know_Stem x175) fun x179 => Option.bind (know_Index_term x x179) fun x187 => Option.bind (if (x187.2 && (!((mapGet s150.2 x179).getD false))) = true then Option.bind (appendL 3518437208883 s150.1 ([x187.1] : List know_Term)) fun x231 => some (x231, (mapPut s150.2 x179 true)) else some (s150.1, s150.2)) fun s207 => some (s207.1, s207.2)) fun s166 => some (.nx (s166.1, s166.2))) ws.length (fun k s => s.1.Nodup ∧ (∀ t, t ∈ s.1 ↔ t ∈ x.terms ∧ ∃ w ∈ ws.take k, t.word = stemV w) ∧ (∀ y, (mapGet s.2 y).getD false = true ↔ ∃ t ∈ s.1, t.word = y) ∧ s.1.length ≤ k) (s := (([] : (List know_Term)), ([] : List (ByteArray × Bool)))) ⟨List.nodup_nil, fun t => by simp, fun y => by simp [mapGet], Nat.le_refl _⟩ (by
    rintro k ⟨L, m⟩ hk ⟨i1, i2, i3, i4⟩
    simp only at i1 i2 i3 i4
    have hwk := hw _ (List.getElem_mem hk)
    have htk : ws.take (k + 1) = ws.take k ++ [ws[k]] := by rw [List.take_add_one, List.getElem?_eq_getElem hk]; rfl
    rw [idx_lt _ _ hk, htk]
    generalize ws[k] = w at hwk
    obtain ⟨y1, _⟩ := stem_val w (by omega)
    generalize hy : stemV w = y at y1
    obtain ⟨r, r1, _, r3, r4⟩ := find_term hx hs y
    have hmem : ∀ t, (t ∈ x.terms ∧ ∃ w' ∈ ws.take k ++ [w], t.word = stemV w') ↔ t ∈ L ∨ (t ∈ x.terms ∧ t.word = y) := fun t => by
      rw [i2 t]
      constructor
      · rintro ⟨h1, w', h2, h3⟩
        rcases List.mem_append.1 h2 with h | h
        · exact Or.inl ⟨h1, w', h, h3⟩
        · rw [List.mem_singleton] at h
          subst h
          exact Or.inr ⟨h1, by rw [h3, hy]⟩
      · rintro (⟨h1, w', h2, h3⟩ | ⟨h1, h2⟩)
        · exact ⟨h1, w', List.mem_append_left _ h2, h3⟩
        · exact ⟨h1, w, by simp, by rw [h2, hy]⟩
    simp only [Option.bind_some, y1, r1]
    cases hr : r.2 with
    | false =>
      refine ⟨(L, m), rfl, i1, fun t => ?_, i3, by simp only; omega⟩
      rw [hmem]
      exact ⟨Or.inl, fun h => h.elim id fun h => absurd h.2 ((r4 hr).2 t h.1)⟩
    | true =>
      obtain ⟨q1, q2⟩ := r3 hr
      cases hm : (mapGet m y).getD false with
      | true =>
        refine ⟨(L, m), rfl, i1, fun t => ?_, i3, by simp only; omega⟩
        rw [hmem]
        obtain ⟨u, u1, u2⟩ := (i3 y).1 hm
        exact ⟨Or.inl, fun h => h.elim id fun h => by rw [same_word hx h.1 ((i2 u).1 u1).1 (by rw [h.2, u2])]; exact u1⟩
      | false =>
        have hnot : ∀ t ∈ L, t.word ≠ y := fun t ht h => by
          rw [(i3 y).2 ⟨t, ht, h⟩] at hm
          cases hm
        refine ⟨(L ++ [r.1], mapPut m y true), ?_, ?_, fun t => ?_, fun z => ?_, ?_⟩
        · simp only [Bool.not_false, Bool.and_self, if_true, appendL]
          rw [if_pos (by rw [List.length_singleton]; omega)]
          rfl
        · rw [List.nodup_append]
          refine ⟨i1, by simp, fun a ha b hb => ?_⟩
          rw [List.mem_singleton] at hb
          subst hb
          exact fun h => hnot a ha (by rw [h]; exact q2)
        · rw [hmem, List.mem_append, List.mem_singleton]
          exact ⟨fun h => h.imp id fun h => by subst h; exact ⟨q1, q2⟩, fun h => h.imp id fun h => same_word hx h.1 q1 (by rw [h.2, q2])⟩
        · rw [mapGet_put2]
          by_cases hyz : y = z
          · rw [if_pos hyz]
            subst hyz
            exact ⟨fun _ => ⟨r.1, by simp, q2⟩, fun _ => rfl⟩
          · rw [if_neg hyz, i3 z]
            constructor
            · rintro ⟨t, h1, h2⟩
              exact ⟨t, List.mem_append_left _ h1, h2⟩
            · rintro ⟨t, h1, h2⟩
              rcases List.mem_append.1 h1 with h | h
              · exact ⟨t, h, h2⟩
              · rw [List.mem_singleton] at h
                subst h
                exact absurd (q2.symm.trans h2) hyz
        · rw [List.length_append, List.length_singleton]; omega)
  rw [List.take_length] at h2
  exact ⟨L, m, h, h1, h2⟩

theorem pre_some (s w : ByteArray) : ∃ b, strings_HasPrefix s w = some b := by
  unfold strings_HasPrefix internal_stringslite_HasPrefix
  by_cases h : (w.size : Int) ≤ (s.size : Int)
  · rw [if_pos (by simpa using h)]
    have := sliceS_nat s 0 w.size (Nat.zero_le _) (by omega)
    have e : sliceS s none (some (w.size : Int)) = some (s.extract 0 w.size) := by
      rw [← this]
      unfold sliceS bounds
      simp
    rw [e]
    exact ⟨_, rfl⟩
  · rw [if_neg (by simpa using h)]
    exact ⟨_, rfl⟩
noncomputable def pre (s w : ByteArray) : Bool := (strings_HasPrefix s w).getD false
theorem pre_val (s w : ByteArray) : strings_HasPrefix s w = some (pre s w) := by
  obtain ⟨b, h⟩ := pre_some s w
  unfold pre
  rw [h]
  rfl
theorem containsS_val (s : List ByteArray) (f : ByteArray → Option Bool) (q : ByteArray → Bool) (hf : ∀ x ∈ s, f x = some (q x)) : slices_ContainsFunc_Lstring_string s f = some (s.any q) := by
  unfold slices_ContainsFunc_Lstring_string slices_IndexFunc_Lstring_string
  obtain ⟨o, ho, hq⟩ := rangeB_spec (R := Int) (body := fun k6 (_ : Unit) => Option.bind (idx s (k6 : Int)) fun x25 => Option.bind (f x25) fun x30 => if x30 = true then some (.rt (k6 : Int)) else some (.nx ())) s.length (fun k _ => ∀ j x, j < k → s[j]? = some x → q x = false) (fun o => (∃ k : Nat, o = .rt (k : Int) ∧ s.any q = true) ∨ o = .fin () ∧ s.any q = false) (s := ()) (fun j x h => by omega) (by
    intro k _ hk hI
    have hx : s[k]? = some s[k] := List.getElem?_eq_getElem hk
    rw [idx_lt s k hk, Option.bind_some, hf _ (List.getElem_mem hk), Option.bind_some]
    cases hq : q s[k] with
    | true => exact ⟨_, rfl, Or.inl ⟨k, rfl, List.any_eq_true.2 ⟨_, List.getElem_mem hk, hq⟩⟩⟩
    | false =>
      refine ⟨_, rfl, fun j x hj hjx => ?_⟩
      rcases Nat.lt_or_eq_of_le (Nat.le_of_lt_succ hj) with h | rfl
      · exact hI j x h hjx
      · rw [hx] at hjx; cases hjx; exact hq) (fun _ hI => Or.inr ⟨rfl, by
    rw [List.any_eq_false]
    intro x hx
    obtain ⟨j, hj⟩ := List.mem_iff_getElem?.1 hx
    rw [hI j x (List.getElem?_eq_some_iff.1 hj).1 hj]
    exact Bool.false_ne_true⟩)
  rw [ho]
  rcases hq with ⟨k, rfl, h⟩ | ⟨rfl, h⟩
  · rw [h]; simp [Lp.andThen]
  · rw [h]; rfl
theorem containsT_val (s : List know_Term) (f : know_Term → Option Bool) (q : know_Term → Bool) (hf : ∀ x ∈ s, f x = some (q x)) : slices_ContainsFunc_Lknow_Term_know_Term s f = some (s.any q) := by
  unfold slices_ContainsFunc_Lknow_Term_know_Term slices_IndexFunc_Lknow_Term_know_Term
  obtain ⟨o, ho, hq⟩ := rangeB_spec (R := Int) (body := fun k6 (_ : Unit) => Option.bind (idx s (k6 : Int)) fun x25 => Option.bind (f x25) fun x30 => if x30 = true then some (.rt (k6 : Int)) else some (.nx ())) s.length (fun k _ => ∀ j x, j < k → s[j]? = some x → q x = false) (fun o => (∃ k : Nat, o = .rt (k : Int) ∧ s.any q = true) ∨ o = .fin () ∧ s.any q = false) (s := ()) (fun j x h => by omega) (by
    intro k _ hk hI
    have hx : s[k]? = some s[k] := List.getElem?_eq_getElem hk
    rw [idx_lt s k hk, Option.bind_some, hf _ (List.getElem_mem hk), Option.bind_some]
    cases hq : q s[k] with
    | true => exact ⟨_, rfl, Or.inl ⟨k, rfl, List.any_eq_true.2 ⟨_, List.getElem_mem hk, hq⟩⟩⟩
    | false =>
      refine ⟨_, rfl, fun j x hj hjx => ?_⟩
      rcases Nat.lt_or_eq_of_le (Nat.le_of_lt_succ hj) with h | rfl
      · exact hI j x h hjx
      · rw [hx] at hjx; cases hjx; exact hq) (fun _ hI => Or.inr ⟨rfl, by
    rw [List.any_eq_false]
    intro x hx
    obtain ⟨j, hj⟩ := List.mem_iff_getElem?.1 hx
    rw [hI j x (List.getElem?_eq_some_iff.1 hj).1 hj]
    exact Bool.false_ne_true⟩)
  rw [ho]
  rcases hq with ⟨k, rfl, h⟩ | ⟨rfl, h⟩
  · rw [h]; simp [Lp.andThen]
  · rw [h]; rfl
/-- a loop that keeps the elements of a kind -/
theorem filter_loop {α R : Type} (l : List α) (q : α → Bool) (lim : Nat) (hl : l.length ≤ lim) (body : Nat → List α → Option (Ctl (List α) R)) (hbody : ∀ (k : Nat) (x : α) (s : List α), l[k]? = some x → body k s = if q x = true then Option.bind (appendL lim s [x]) (fun y => some (.nx y)) else some (.nx s)) : rangeB body l.length 0 [] = some (.fin (l.filter q)) := by
  obtain ⟨t, h, rfl⟩ := rangeB_inv (b := body) l.length (fun k s => s = (l.take k).filter q) (s := []) (by simp) (by
    rintro k s hk rfl
    have hx : l[k]? = some l[k] := List.getElem?_eq_getElem hk
    have htk : l.take (k + 1) = l.take k ++ [l[k]] := by rw [List.take_add_one, hx]; rfl
    rw [hbody k _ _ hx, htk, List.filter_append]
    have hle : ((l.take k).filter q).length ≤ k := Nat.le_trans (List.length_filter_le _ _) (by rw [List.length_take]; omega)
    cases hq : q l[k] with
    | true =>
      rw [if_pos rfl]
      unfold appendL
      rw [if_pos (by rw [List.length_singleton]; omega)]
      exact ⟨_, rfl, by rw [List.filter_cons_of_pos hq, List.filter_nil]⟩
    | false =>
      rw [if_neg (by decide)]
      exact ⟨_, rfl, by rw [List.filter_cons_of_neg (by rw [hq]; decide), List.filter_nil, List.append_nil]⟩)
  rw [h, List.take_length]

/-- a part that may be asked -/
structure PartOk (p : know_Part) : Prop where
  kind : 0 ≤ p.kind ∧ p.kind ≤ 2
  words : 1 ≤ p.words.length
  one : p.kind ≠ 1 → p.words.length = 1
  size : ∀ w ∈ p.words, w.size ≤ 30
  len : p.words.length ≤ 1048576
theorem part_ok {p : know_Part} (h1 : badP p = false) (h2 : p.words.any badW = false) (hl : p.words.length ≤ 1048576) : PartOk p := by
  unfold badP at h1
  simp only [Bool.or_eq_false_iff, Bool.and_eq_false_iff, decide_eq_false_iff_not, beq_eq_false_iff_ne, bne_eq_false_iff_eq] at h1
  refine ⟨by omega, by omega, fun h => by omega, fun w hw => ?_, hl⟩
  have := (List.any_eq_false.1 h2) w hw
  rw [Bool.not_eq_true] at this
  unfold badW at this
  rw [Bool.or_eq_false_iff, Bool.not_eq_false', strEq_cmp, decide_eq_true_eq] at this
  rw [← this.2]
  cases hws : wordsL w.data.toList with
  | nil => rw [hws] at this; simp at this
  | cons a l => exact wordsF_size _ _ a (by unfold wordsL at hws; rw [hws]; exact List.mem_cons_self ..)

theorem terms_of {x : know_Index} (hx : IndexOk x) (hs : Small x) {p : know_Part} (hp : PartOk p) : ∃ N T, know_Index_named x p = some N ∧ portref2_termsOf x p = some T ∧ N.Perm T ∧ ∀ t ∈ N, t ∈ x.terms := by
  have htl := hs.terms
  have hT : portref2_termsOf x p = some (x.terms.filter fun t => p.words.any fun w => if p.kind = 2 then pre t.word w else decide (t.word = stemV w)) := by
    unfold portref2_termsOf
    rw [filter_loop (R := List know_Term) x.terms (fun t => p.words.any fun w => if p.kind = 2 then pre t.word w else decide (t.word = stemV w)) 3518437208883 (by omega)]
    · rfl
    intro k t s ht
    rw [idx_nat, ht, Option.bind_some]
    have hc : slices_ContainsFunc_Lstring_string p.words (fun y84 => portref2_termsOf_1 y84 p t) = some (p.words.any fun w => if p.kind = 2 then pre t.word w else decide (t.word = stemV w)) := by
      refine containsS_val _ _ _ fun w hw => ?_
      unfold portref2_termsOf_1
      by_cases h2 : p.kind = 2
      · rw [if_pos (by simpa using h2), pre_val, if_pos h2]; rfl
      · rw [if_neg (by simpa using h2), (stem_val w (by have := hp.size w hw; omega)).2, if_neg h2, Option.bind_some, strEq_cmp]
    rw [hc, Option.bind_some]
    cases (p.words.any fun w => if p.kind = 2 then pre t.word w else decide (t.word = stemV w)) with
    | false => rfl
    | true =>
      simp only [if_true]
      cases appendL 3518437208883 s [t] <;> rfl
  by_cases h2 : p.kind = 2
  · have h1 := hp.one (by omega)
    obtain ⟨w, hw⟩ := List.length_eq_one_iff.1 h1
    have e : (fun t : know_Term => p.words.any fun w => if p.kind = 2 then pre t.word w else decide (t.word = stemV w)) = fun t => pre t.word w := by
      funext t
      rw [hw]
      simp [h2]
    rw [e] at hT
    refine ⟨_, _, ?_, hT, .refl _, fun t ht => (List.mem_filter.1 ht).1⟩
    unfold know_Index_named
    rw [if_pos (by simpa using h2), filter_loop (R := List know_Term) x.terms (fun t => pre t.word w) 3518437208883 (by omega)]
    · rfl
    intro k t s ht
    have e0 : idx ([w] : List ByteArray) 0 = some w := rfl
    rw [idx_nat, ht, Option.bind_some, hw, e0, Option.bind_some, pre_val, Option.bind_some]
    cases pre t.word w with
    | false => rfl
    | true =>
      simp only [if_true]
      cases appendL 3518437208883 s [t] <;> rfl
  · obtain ⟨L, m, l1, l2, l3⟩ := named_mem hx hs p.words hp.size hp.len
    refine ⟨L, _, ?_, hT, ?_, fun t ht => ((l3 t).1 ht).1⟩
    · unfold know_Index_named
      rw [if_neg (by simpa using h2), l1]
      rfl
    · rw [List.perm_ext_iff_of_nodup l2 ((terms_nodup hx).sublist List.filter_sublist)]
      intro t
      rw [l3 t, List.mem_filter, List.any_eq_true]
      simp only [h2, if_false, decide_eq_true_eq]
end Go.Proofs.YtkjlbaacbkdnfaaGreatDoor.M
