/-
  Phrases: code and reference agree: plain part.
-/
import Derived.Test.YtkjlbaacbkdnfaaGreatDoorKnowSearchesKnwNamed
namespace Go.Proofs.YtkjlbaacbkdnfaaGreatDoor.M
open Go Go.Pu
set_option linter.unusedSimpArgs false
set_option linter.unusedVariables false

noncomputable def posV (x : know_Index) (id : Int) (b : Bool) (w : ByteArray) : List Int := (portref2_matches_2 w b x id).getD []
/-- what is known of one word in one entry -/
theorem word_post {x : know_Index} (hx : IndexOk x) (hs : Small x) (id : Int) (w : ByteArray) (hw : w.size ≤ 30) : ∃ r q, know_Stem w = some (stemV w) ∧ know_Index_term x (stemV w) = some r ∧ know_Term_posting r.1 id = some q ∧ (∀ b, portref2_matches_2 w b x id = some (posV x id b w)) ∧ q.1.title = posV x id true w ∧ q.1.body = posV x id false w ∧ (q.2 = false → ∀ b, posV x id b w = []) ∧ ∀ b, rising (posV x id b w) ∧ (posV x id b w).length ≤ 1048576 := by
  obtain ⟨s1, s2⟩ := stem_val w (by omega)
  obtain ⟨r, r1, r2, r3, r4⟩ := find_term hx hs (stemV w)
  have hpost : ∃ q, know_Term_posting r.1 id = some q ∧ portref2_postingOf r.1 id = some q ∧ (q.2 = false → q.1.title = [] ∧ q.1.body = []) ∧ (rising q.1.title ∧ q.1.title.length ≤ 1048576) ∧ rising q.1.body ∧ q.1.body.length ≤ 1048576 := by
    have hnil : rising [] := fun i j a b _ h => by simp at h
    cases hr : r.2 with
    | true =>
      have ht := (r3 hr).1
      obtain ⟨q, q1, q2, q3, q4⟩ := find_post (hx.terms _ ht).rise (hs.list _ ht) id
      refine ⟨q, q1, q2, fun h => ⟨(q4 h).1, (q4 h).2.1⟩, ?_⟩
      cases hq : q.2 with
      | true =>
        have hm := (q3 hq).1
        have h1 := (hx.terms _ ht).pos _ hm
        have h2 := hs.posts _ ht _ hm
        exact ⟨⟨h1.1.1, h2.1⟩, h1.2.1, h2.2⟩
      | false =>
        obtain ⟨h1, h2, _⟩ := q4 hq
        rw [h1, h2]
        exact ⟨⟨hnil, Nat.zero_le _⟩, hnil, Nat.zero_le _⟩
    | false =>
      have he := (r4 hr).1
      obtain ⟨q, q1, q2, q3, q4⟩ := find_post (t := r.1) (by rw [he]; intro i j p q _ h; simp at h) (by rw [he]; exact Nat.zero_le _) id
      have hq : q.2 = false := by
        rw [← Bool.not_eq_true]
        intro h
        have := (q3 h).1
        rw [he] at this
        cases this
      obtain ⟨h1, h2, _⟩ := q4 hq
      refine ⟨q, q1, q2, fun _ => ⟨h1, h2⟩, ?_⟩
      rw [h1, h2]
      exact ⟨⟨hnil, Nat.zero_le _⟩, hnil, Nat.zero_le _⟩
  obtain ⟨q, q1, q2, q3, q5, q6⟩ := hpost
  have hm : ∀ b, portref2_matches_2 w b x id = some (if b = true then q.1.title else q.1.body) := fun b => by
    unfold portref2_matches_2
    rw [s2, Option.bind_some, r2, Option.bind_some, q2, Option.bind_some]
    cases b <;> rfl
  have hv : ∀ b, posV x id b w = if b = true then q.1.title else q.1.body := fun b => by
    unfold posV
    rw [hm]
    rfl
  refine ⟨r, q, s1, r1, q1, fun b => by rw [hm, hv], (hv true).symm, (hv false).symm, fun h b => ?_, fun b => ?_⟩
  · rw [hv]
    cases b
    · exact (q3 h).2
    · exact (q3 h).1
  · rw [hv]
    cases b
    · exact q6
    · exact q5

/-- the positions that follow each other -/
def AllIn (ls : List (List Int)) (a : Int) : Prop := ∀ (j : Nat) (l : List Int), ls[j]? = some l → w64 (a + (j : Int)) ∈ l
def Fol (ls : List (List Int)) : Prop := ∃ l0, ls[0]? = some l0 ∧ ∃ a ∈ l0, AllIn ls a

theorem containsI_val (s : List Int) (f : Int → Option Bool) (q : Int → Bool) (hf : ∀ x ∈ s, f x = some (q x)) : slices_ContainsFunc_Lint_int s f = some (s.any q) := by
  unfold slices_ContainsFunc_Lint_int slices_IndexFunc_Lint_int
  obtain ⟨o, ho, hq⟩ := rangeB_spec (R := Int) (body := fun k6 (_ : Unit) => Option.bind (idx s (k6 : Int)) fun x25 => Option.bind (f x25) fun x30 => if x30 = true then some (.rt (k6 : Int)) else some (.nx ())) s.length (fun k _ => ∀ j x, j < k → s[j]? = some x → q x = false) (fun o => (∃ k : Nat, o = .rt (k : Int) ∧ s.any q = true) ∨ o = .fin () ∧ s.any q = false) (s := ()) (fun j x h => by omega) (by
    intro k _ hk hI
    have hx : s[k]? = some s[k] := List.getElem?_eq_getElem hk
    rw [idx_lt s k hk, Option.bind_some, hf _ (List.getElem_mem hk), Option.bind_some]
    cases hq : q s[k] with
    | true => exact ⟨_, rfl, Or.inl ⟨k, rfl, List.any_eq_true.2 ⟨_, List.getElem_mem hk, hq⟩⟩⟩
    | false =>
      refine ⟨_, rfl, fun j x hj hjx => ?_⟩
      rcases Nat.lt_or_eq_of_le (Nat.le_of_lt_succ hj) with h | rfl
      · exact hI j x h hjx
      · rw [hx] at hjx; cases hjx; exact hq) (fun _ hI => Or.inr ⟨rfl, by
    rw [List.any_eq_false]
    intro x hx
    obtain ⟨j, hj⟩ := List.mem_iff_getElem?.1 hx
    rw [hI j x (List.getElem?_eq_some_iff.1 hj).1 hj]
    exact Bool.false_ne_true⟩)
  rw [ho]
  rcases hq with ⟨k, rfl, h⟩ | ⟨rfl, h⟩
  · rw [h]; simp [Lp.andThen]
  · rw [h]; rfl
theorem containsV_val (s : List Int) (v : Int) : slices_Contains_Lint_int s v = some (decide (v ∈ s)) := by
  unfold slices_Contains_Lint_int slices_Index_Lint_int
  obtain ⟨o, ho, hq⟩ := rangeB_spec (R := Int) (body := fun k6 (_ : Unit) => Option.bind (idx s (k6 : Int)) fun x21 => if (v == x21) = true then some (.rt (k6 : Int)) else some (.nx ())) s.length (fun k _ => ∀ j x, j < k → s[j]? = some x → v ≠ x) (fun o => (∃ k : Nat, o = .rt (k : Int) ∧ v ∈ s) ∨ o = .fin () ∧ v ∉ s) (s := ()) (fun j x h => by omega) (by
    intro k _ hk hI
    have hx : s[k]? = some s[k] := List.getElem?_eq_getElem hk
    rw [idx_lt s k hk, Option.bind_some]
    by_cases hq : v = s[k]
    · rw [if_pos (by simpa using hq)]
      exact ⟨_, rfl, Or.inl ⟨k, rfl, by rw [hq]; exact List.getElem_mem hk⟩⟩
    · rw [if_neg (by simpa using hq)]
      refine ⟨_, rfl, fun j x hj hjx => ?_⟩
      rcases Nat.lt_or_eq_of_le (Nat.le_of_lt_succ hj) with h | rfl
      · exact hI j x h hjx
      · rw [hx] at hjx; cases hjx; exact hq) (fun _ hI => Or.inr ⟨rfl, fun hv => by
    obtain ⟨j, hj⟩ := List.mem_iff_getElem?.1 hv
    exact hI j v (List.getElem?_eq_some_iff.1 hj).1 hj rfl⟩)
  rw [ho]
  rcases hq with ⟨k, rfl, h⟩ | ⟨rfl, h⟩
  · simp [Lp.andThen, h]
  · simp [Lp.andThen, h]

open Classical in
theorem follow_at (ls : List (List Int)) (hls : ∀ l ∈ ls, rising l ∧ l.length ≤ 1048576) (a : Int) : know_Index_phrase_1_1 a ls = some (decide (AllIn ls a)) := by
  unfold know_Index_phrase_1_1
  obtain ⟨o, ho, hq⟩ := rangeB_spec (R := Bool) (body := fun k8 (_ : Unit) => Option.bind (idx ls (k8 : Int)) fun x26 => Option.bind (slices_BinarySearch_Lint_int x26 (w64 (a + (k8 : Int)))) fun x33 => if (!x33.2) = true then some (.rt false) else some (.nx ())) ls.length (fun k _ => ∀ (j : Nat) l, j < k → ls[j]? = some l → w64 (a + (j : Int)) ∈ l) (fun o => (o = .rt false ∧ ¬ AllIn ls a) ∨ (o = .fin () ∧ AllIn ls a)) (s := ()) (fun j l h => by omega) (by
    intro k _ hk hI
    have hx : ls[k]? = some ls[k] := List.getElem?_eq_getElem hk
    have hl := hls _ (List.getElem_mem hk)
    rw [idx_lt _ _ hk, Option.bind_some]
    generalize ls[k] = l at hx hl
    obtain ⟨p, b1, _, _⟩ := bsearch_val (l := l) (by omega) hl.1 (w64 (a + (k : Int)))
    rw [b1, Option.bind_some]
    by_cases hm : w64 (a + (k : Int)) ∈ l
    · simp only [hm, decide_true, Bool.not_true, Bool.false_eq_true, if_false]
      refine ⟨_, rfl, fun j u hj hu => ?_⟩
      rcases Nat.lt_or_eq_of_le (Nat.le_of_lt_succ hj) with h | rfl
      · exact hI j u h hu
      · rw [hx] at hu; cases hu; exact hm
    · simp only [hm, decide_false, Bool.not_false, if_true]
      exact ⟨_, rfl, Or.inl ⟨rfl, fun h => hm (h k l hx)⟩⟩) (fun _ hI => Or.inr ⟨rfl, fun j l h => hI j l (List.getElem?_eq_some_iff.1 h).1 h⟩)
  rw [ho]
  rcases hq with ⟨rfl, h⟩ | ⟨rfl, h⟩
  · simp [Lp.andThen, h]
  · simp [Lp.andThen, h]
open Classical in
theorem follow_val (ls : List (List Int)) (hls : ∀ l ∈ ls, rising l ∧ l.length ≤ 1048576) (hne : ls ≠ []) : know_Index_phrase_1 ls = some (decide (Fol ls)) := by
  unfold know_Index_phrase_1
  obtain ⟨l0, rest, rfl⟩ : ∃ l0 rest, ls = l0 :: rest := by cases ls with | nil => exact absurd rfl hne | cons a l => exact ⟨a, l, rfl⟩
  have e : idx (l0 :: rest) 0 = some l0 := rfl
  rw [e, Option.bind_some, containsI_val l0 _ (fun a => decide (AllIn (l0 :: rest) a)) (fun a _ => follow_at _ hls a), Option.bind_some]
  congr 1
  rw [Bool.eq_iff_iff, List.any_eq_true, decide_eq_true_eq]
  constructor
  · rintro ⟨a, h1, h2⟩
    exact ⟨l0, rfl, a, h1, by simpa using h2⟩
  · rintro ⟨l1, h1, a, h2, h3⟩
    cases h1
    exact ⟨a, h2, by simpa using h3⟩

open Classical in
theorem phrase_code {x : know_Index} (hx : IndexOk x) (hs : Small x) (id : Int) (ws : List ByteArray) (hw : ∀ w ∈ ws, w.size ≤ 30) (hn : ws.length ≤ 1048576) (hne : 1 ≤ ws.length) :
    know_Index_phrase x ws id = some (decide (Fol (ws.map (posV x id true)) ∨ Fol (ws.map (posV x id false)))) := by
  unfold know_Index_phrase
  have hgood : ∀ b, ∀ l ∈ ws.map (posV x id b), rising l ∧ l.length ≤ 1048576 := fun b l hl => by
    obtain ⟨w, hwm, rfl⟩ := List.mem_map.1 hl
    obtain ⟨_, _, _, _, _, _, _, _, _, h⟩ := word_post hx hs id w (hw w hwm)
    exact h b
  have hnn : ∀ b, ws.map (posV x id b) ≠ [] := fun b h => by
    have := congrArg List.length h
    simp at this
    rw [this] at hne
    simp at hne
  obtain ⟨o, ho, hq⟩ := rangeB_spec (R := Bool) (body := fun k18 s28 => Option.bind (idx ws (k18 : Int)) fun x45 => Option.bind (know_Stem x45) fun x148 => Option.bind (know_Index_term x x148) fun x237 => Option.bind (know_Term_posting x237.1 id) fun x262 => if (!x262.2) = true then some (.rt false) else Option.bind (appendL 5864062014805 s28.1 ([x262.1.title] : List (List Int))) fun x300 => Option.bind (appendL 5864062014805 s28.2 ([x262.1.body] : List (List Int))) fun x318 => some (.nx (x300, x318))) ws.length (fun k s => s = ((ws.take k).map (posV x id true), (ws.take k).map (posV x id false))) (fun o => (o = .rt false ∧ ∀ b, ¬ Fol (ws.map (posV x id b))) ∨ o = .fin (ws.map (posV x id true), ws.map (posV x id false))) (s := (([] : (List (List Int))), ([] : (List (List Int))))) (by simp) (by
    rintro k s hk rfl
    have hwk := hw _ (List.getElem_mem hk)
    have hgk : ws[k]? = some ws[k] := List.getElem?_eq_getElem hk
    have htk : ws.take (k + 1) = ws.take k ++ [ws[k]] := by rw [List.take_add_one, hgk]; rfl
    rw [idx_lt _ _ hk, htk]
    generalize ws[k] = w at hwk hgk
    obtain ⟨r, q, e1, e2, e3, e4, e5, e6, e7, e8⟩ := word_post hx hs id w hwk
    simp only [Option.bind_some, e1, e2, e3]
    cases hq : q.2 with
    | false =>
      refine ⟨_, rfl, Or.inl ⟨rfl, fun b => ?_⟩⟩
      rintro ⟨l0, h0, a, _, h⟩
      have := h k (posV x id b w) (by rw [List.getElem?_map, hgk]; rfl)
      rw [e7 hq b] at this
      cases this
    | true =>
      simp only [Bool.not_true, Bool.false_eq_true, if_false, appendL]
      rw [if_pos (by rw [List.length_singleton, List.length_map, List.length_take]; omega), Option.bind_some, if_pos (by rw [List.length_singleton, List.length_map, List.length_take]; omega), Option.bind_some]
      refine ⟨_, rfl, ?_⟩
      rw [List.map_append, List.map_append, e5, e6]
      rfl) (fun s hI => Or.inr (by rw [hI, List.take_length]))
  rw [ho]
  rcases hq with ⟨rfl, h⟩ | rfl
  · simp [Lp.andThen, h]
  · simp only [Option.bind_some, Lp.andThen_fin, follow_val _ (hgood true) (hnn true), follow_val _ (hgood false) (hnn false)]
    by_cases h1 : Fol (ws.map (posV x id true))
    · simp [h1]
    · simp [h1]

open Classical in
theorem phrase_in {x : know_Index} (hx : IndexOk x) (hs : Small x) (id : Int) (ws : List ByteArray) (hw : ∀ w ∈ ws, w.size ≤ 30) (b : Bool) (a : Int) :
    rangeB (R := Bool) (fun k148 s154 => Option.bind (idx ws (k148 : Int)) fun x167 => Option.bind (if s154 = true then (Option.bind (portref2_matches_2 x167 b x id) fun x180 => Option.bind (slices_Contains_Lint_int x180 (w64 (a + (k148 : Int)))) fun x186 => some x186) else (some false)) fun s172 => some (.nx s172)) ws.length 0 true = some (.fin (decide (AllIn (ws.map (posV x id b)) a))) := by
  obtain ⟨t, h, rfl⟩ := rangeB_inv (R := Bool) (b := fun k148 s154 => Option.bind (idx ws (k148 : Int)) fun x167 => Option.bind (if s154 = true then (Option.bind (portref2_matches_2 x167 b x id) fun x180 => Option.bind (slices_Contains_Lint_int x180 (w64 (a + (k148 : Int)))) fun x186 => some x186) else (some false)) fun s172 => some (.nx s172)) ws.length (fun k s => s = decide (∀ (j : Nat) w, j < k → ws[j]? = some w → w64 (a + (j : Int)) ∈ posV x id b w)) (s := true) (by simp) (by
    rintro k s hk rfl
    have hwk := hw _ (List.getElem_mem hk)
    have hgk : ws[k]? = some ws[k] := List.getElem?_eq_getElem hk
    rw [idx_lt _ _ hk]
    generalize ws[k] = w at hwk hgk
    obtain ⟨_, _, _, _, _, e4, _⟩ := word_post hx hs id w hwk
    simp only [Option.bind_some, e4, containsV_val]
    by_cases hI : ∀ (j : Nat) w, j < k → ws[j]? = some w → w64 (a + (j : Int)) ∈ posV x id b w
    · rw [if_pos (by simpa using hI)]
      refine ⟨_, rfl, ?_⟩
      rw [Bool.eq_iff_iff, decide_eq_true_eq, decide_eq_true_eq]
      constructor
      · intro hm j u hj hu
        rcases Nat.lt_or_eq_of_le (Nat.le_of_lt_succ hj) with h | rfl
        · exact hI j u h hu
        · rw [hgk] at hu; cases hu; exact hm
      · intro h
        exact h k w (Nat.lt_succ_self _) hgk
    · rw [if_neg (by simpa using hI)]
      refine ⟨_, rfl, ?_⟩
      rw [eq_comm, decide_eq_false_iff_not]
      exact fun h => hI fun j u hj hu => h j u (by omega) hu)
  rw [h]
  congr 2
  rw [Bool.eq_iff_iff, decide_eq_true_eq, decide_eq_true_eq]
  constructor
  · intro h j l hl
    rw [List.getElem?_map] at hl
    obtain ⟨w, hw1, rfl⟩ := Option.map_eq_some_iff.1 hl
    exact h j w (List.getElem?_eq_some_iff.1 hw1).1 hw1
  · intro h j w hj hw1
    exact h j _ (by rw [List.getElem?_map, hw1]; rfl)
open Classical in
theorem phrase_mid {x : know_Index} (hx : IndexOk x) (hs : Small x) (id : Int) (ws : List ByteArray) (hw : ∀ w ∈ ws, w.size ≤ 30) (b : Bool) (w0 : ByteArray) (h0 : ws[0]? = some w0) (l : List Int) (hl : l = posV x id b w0) :
    rangeB (R := Bool) (fun k118 (_ : Unit) => Option.bind (idx l (k118 : Int)) fun x137 => Option.bind (rangeB (fun k148 s154 => Option.bind (idx ws (k148 : Int)) fun x167 => Option.bind (if s154 = true then (Option.bind (portref2_matches_2 x167 b x id) fun x180 => Option.bind (slices_Contains_Lint_int x180 (w64 (x137 + (k148 : Int)))) fun x186 => some x186) else (some false)) fun s172 => some (.nx s172)) ws.length 0 true) fun o145 => o145.andThen (fun y => some (.rt y)) fun s146 => if s146 = true then some (.rt true) else some (.nx ())) l.length 0 () = some (if Fol (ws.map (posV x id b)) then .rt true else .fin ()) := by
  have hz : (ws.map (posV x id b))[0]? = some l := by rw [List.getElem?_map, h0, hl]; rfl
  obtain ⟨o, ho, hq⟩ := rangeB_spec (R := Bool) (body := fun k118 (_ : Unit) => Option.bind (idx l (k118 : Int)) fun x137 => Option.bind (rangeB (fun k148 s154 => Option.bind (idx ws (k148 : Int)) fun x167 => Option.bind (if s154 = true then (Option.bind (portref2_matches_2 x167 b x id) fun x180 => Option.bind (slices_Contains_Lint_int x180 (w64 (x137 + (k148 : Int)))) fun x186 => some x186) else (some false)) fun s172 => some (.nx s172)) ws.length 0 true) fun o145 => o145.andThen (fun y => some (.rt y)) fun s146 => if s146 = true then some (.rt true) else some (.nx ())) l.length (fun k _ => ∀ (j : Nat) a, j < k → l[j]? = some a → ¬ AllIn (ws.map (posV x id b)) a) (fun o => (o = .rt true ∧ Fol (ws.map (posV x id b))) ∨ (o = .fin () ∧ ¬ Fol (ws.map (posV x id b)))) (s := ()) (fun j a h => by omega) (by
    intro k _ hk hI
    have hgk : l[k]? = some l[k] := List.getElem?_eq_getElem hk
    rw [idx_lt _ _ hk, Option.bind_some]
    generalize l[k] = a at hgk
    rw [phrase_in hx hs id ws hw b a, Option.bind_some, Lp.andThen_fin]
    by_cases hA : AllIn (ws.map (posV x id b)) a
    · rw [if_pos (by simpa using hA)]
      exact ⟨_, rfl, Or.inl ⟨rfl, l, hz, a, List.mem_of_getElem? hgk, hA⟩⟩
    · rw [if_neg (by simpa using hA)]
      refine ⟨_, rfl, fun j u hj hu => ?_⟩
      rcases Nat.lt_or_eq_of_le (Nat.le_of_lt_succ hj) with h | rfl
      · exact hI j u h hu
      · rw [hgk] at hu; cases hu; exact hA) (fun _ hI => Or.inr ⟨rfl, by
    rintro ⟨l0, h1, a, h2, h3⟩
    rw [hz] at h1
    cases h1
    obtain ⟨j, hj⟩ := List.mem_iff_getElem?.1 h2
    exact hI j a (List.getElem?_eq_some_iff.1 hj).1 hj h3⟩)
  rw [ho]
  rcases hq with ⟨rfl, h⟩ | ⟨rfl, h⟩
  · rw [if_pos h]
  · rw [if_neg h]

open Classical in
theorem phrase_ref {x : know_Index} (hx : IndexOk x) (hs : Small x) (id : Int) (p : know_Part) (hp : PartOk p) (hk : p.kind = 1) :
    portref2_matches x p id = some (decide (Fol (p.words.map (posV x id true)) ∨ Fol (p.words.map (posV x id false)))) := by
  obtain ⟨kind, not_, ws⟩ := p
  simp only at hk ⊢
  subst hk
  have hws := hp.words
  have hsz := hp.size
  simp only at hws hsz
  obtain ⟨w0, rest, hcons⟩ : ∃ w0 rest, ws = w0 :: rest := by cases ws with | nil => simp at hws | cons a l => exact ⟨a, l, rfl⟩
  have h0 : ws[0]? = some w0 := by rw [hcons]; rfl
  have hi0 : idx ws 0 = some w0 := by rw [hcons]; rfl
  obtain ⟨_, _, _, _, _, e4, _⟩ := word_post hx hs id w0 (hsz w0 (by rw [hcons]; exact List.mem_cons_self ..))
  have hm := fun b => phrase_mid hx hs id ws hsz b w0 h0 _ rfl
  unfold portref2_matches
  rw [if_neg (show ¬ (((1 : Int) != 1) = true) by decide)]
  simp only
  have i0 : idx ([true, false] : List Bool) ((0 : Nat) : Int) = some true := rfl
  have i1 : idx ([true, false] : List Bool) ((0 + 1 : Nat) : Int) = some false := rfl
  have hlen : ([true, false] : List Bool).length = 2 := rfl
  rw [hlen]
  by_cases h1 : Fol (ws.map (posV x id true))
  · have m1 := hm true
    rw [if_pos h1] at m1
    simp only [rangeB, i0, hi0, e4, Option.bind_some, m1, Lp.andThen_rt, h1, true_or, decide_true]
  · have m1 := hm true
    rw [if_neg h1] at m1
    by_cases h2 : Fol (ws.map (posV x id false))
    · have m2 := hm false
      rw [if_pos h2] at m2
      simp only [rangeB, i0, i1, hi0, e4, Option.bind_some, m1, m2, Lp.andThen_rt, Lp.andThen_fin, h1, h2, or_true, decide_true]
    · have m2 := hm false
      rw [if_neg h2] at m2
      simp only [rangeB, i0, i1, hi0, e4, Option.bind_some, m1, m2, Lp.andThen_rt, Lp.andThen_fin, h1, h2, or_self, decide_false]

/-- an entry matches a part -/
theorem matches_eq {x : know_Index} (hx : IndexOk x) (hs : Small x) {p : know_Part} (hp : PartOk p) {N : List know_Term} (hN : know_Index_named x p = some N) (id : Int) : ∃ b, know_Index_matches x p N id = some b ∧ portref2_matches x p id = some b := by
  by_cases hk : p.kind = 1
  · refine ⟨_, ?_, phrase_ref hx hs id p hp hk⟩
    unfold know_Index_matches
    rw [if_pos (by simpa using hk), phrase_code hx hs id p.words hp.size hp.len hp.words]
    rfl
  · obtain ⟨N', T, n1, n2, n3, n4⟩ := terms_of hx hs hp
    rw [hN] at n1
    cases n1
    have hf : ∀ t ∈ x.terms, ∃ b, know_Index_matches_1 t id = some b ∧ portref2_matches_1 t id = some b := fun t ht => by
      obtain ⟨q, q1, q2, _⟩ := find_post (hx.terms t ht).rise (hs.list t ht) id
      unfold know_Index_matches_1 portref2_matches_1
      rw [q1, q2]
      exact ⟨_, rfl, rfl⟩
    have hq : ∀ t ∈ x.terms, know_Index_matches_1 t id = some ((know_Index_matches_1 t id).getD false) ∧ portref2_matches_1 t id = some ((know_Index_matches_1 t id).getD false) := fun t ht => by
      obtain ⟨b, h1, h2⟩ := hf t ht
      rw [h1, h2]
      exact ⟨rfl, rfl⟩
    have hT : ∀ t ∈ T, t ∈ x.terms := fun t ht => n4 t (n3.mem_iff.2 ht)
    refine ⟨N.any fun t => (know_Index_matches_1 t id).getD false, ?_, ?_⟩
    · unfold know_Index_matches
      rw [if_neg (by simpa using hk), containsT_val N _ (fun t => (know_Index_matches_1 t id).getD false) (fun t ht => (hq t (n4 t ht)).1)]
      rfl
    · unfold portref2_matches
      rw [if_pos (by simpa using hk), n2, Option.bind_some, containsT_val T _ (fun t => (know_Index_matches_1 t id).getD false) (fun t ht => (hq t (hT t ht)).2), Option.bind_some, n3.any_eq]
end Go.Proofs.YtkjlbaacbkdnfaaGreatDoor.M
