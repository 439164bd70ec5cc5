/-
  Search and its reference agree: plain part.
-/
import Derived.Test.YtkjlbaacbkdnfaaGreatDoorKnowSearchesKnwPhrase
namespace Go.Proofs.YtkjlbaacbkdnfaaGreatDoor.M
open Go Go.Pu
set_option linter.unusedSimpArgs false
set_option linter.unusedVariables false

theorem w64_w64 (a b : Int) : w64 (w64 a + b) = w64 (a + b) := by
  simp only [w64, IntKind.wrap, IntKind.bits, IntKind.signed]
  simp
  omega
theorem w64_idem (a : Int) : w64 (w64 a) = w64 a := by
  have := w64_w64 a 0
  rwa [Int.add_zero, Int.add_zero] at this
theorem fold_val {α : Type} (sc : α → Int) : ∀ (l : List α) (s : Int), w64 s = s → l.foldl (fun s t => w64 (s + sc t)) s = w64 (s + (l.map sc).sum)
  | [], s, h => by simp [h]
  | t :: l, s, h => by
    rw [List.foldl_cons, fold_val sc l _ (w64_idem _), w64_w64, List.map_cons, List.sum_cons, Int.add_assoc]
theorem sum_perm {α : Type} (f : α → Int) {l m : List α} (h : l.Perm m) : (l.map f).sum = (m.map f).sum := by
  induction h with
  | nil => rfl
  | cons x _ ih => rw [List.map_cons, List.map_cons, List.sum_cons, List.sum_cons, ih]
  | swap x y l => simp only [List.map_cons, List.sum_cons]; omega
  | trans _ _ h1 h2 => exact h1.trans h2
theorem containsP_val (s : List know_Part) (f : know_Part → Option Bool) (q : know_Part → Bool) (hf : ∀ x ∈ s, f x = some (q x)) : slices_ContainsFunc_Lknow_Part_know_Part s f = some (s.any q) := by
  unfold slices_ContainsFunc_Lknow_Part_know_Part slices_IndexFunc_Lknow_Part_know_Part
  obtain ⟨o, ho, hq⟩ := rangeB_spec (R := Int) (body := fun k6 (_ : Unit) => Option.bind (idx s (k6 : Int)) fun x25 => Option.bind (f x25) fun x30 => if x30 = true then some (.rt (k6 : Int)) else some (.nx ())) s.length (fun k _ => ∀ j x, j < k → s[j]? = some x → q x = false) (fun o => (∃ k : Nat, o = .rt (k : Int) ∧ s.any q = true) ∨ o = .fin () ∧ s.any q = false) (s := ()) (fun j x h => by omega) (by
    intro k _ hk hI
    have hx : s[k]? = some s[k] := List.getElem?_eq_getElem hk
    rw [idx_lt s k hk, Option.bind_some, hf _ (List.getElem_mem hk), Option.bind_some]
    cases hq : q s[k] with
    | true => exact ⟨_, rfl, Or.inl ⟨k, rfl, List.any_eq_true.2 ⟨_, List.getElem_mem hk, hq⟩⟩⟩
    | false =>
      refine ⟨_, rfl, fun j x hj hjx => ?_⟩
      rcases Nat.lt_or_eq_of_le (Nat.le_of_lt_succ hj) with h | rfl
      · exact hI j x h hjx
      · rw [hx] at hjx; cases hjx; exact hq) (fun _ hI => Or.inr ⟨rfl, by
    rw [List.any_eq_false]
    intro x hx
    obtain ⟨j, hj⟩ := List.mem_iff_getElem?.1 hx
    rw [hI j x (List.getElem?_eq_some_iff.1 hj).1 hj]
    exact Bool.false_ne_true⟩)
  rw [ho]
  rcases hq with ⟨k, rfl, h⟩ | ⟨rfl, h⟩
  · rw [h]; simp [Lp.andThen]
  · rw [h]; rfl

/-- the scores of a part's terms, one by one -/
theorem sum_loops {x : know_Index} (hx : IndexOk x) (hs : Small x) (k : Nat) (id : Int) (hk : x.ids[k]? = some id) {N T : List know_Term} (hN : ∀ t ∈ N, t ∈ x.terms) (hp : N.Perm T) (s : Int) (h0 : w64 s = s) :
    ∃ v, rangeB (R := Empty) (fun k288 s294 => Option.bind (idx N (k288 : Int)) fun x307 => Option.bind (know_Index_score x x307 (k : Int)) fun x335 => some (.nx (w64 (s294 + x335)))) N.length 0 s = some (.fin v) ∧ rangeB (R := Empty) (fun k189 s195 => Option.bind (idx T (k189 : Int)) fun x208 => Option.bind (portref2_termScore x x208 id) fun x237 => some (.nx (⟨s195.id_, w64 (s195.score + x237)⟩ : know_Hit))) T.length 0 (⟨id, s⟩ : know_Hit) = some (.fin ⟨id, v⟩) ∧ w64 v = v := by
  have hv : ∀ t ∈ x.terms, know_Index_score x t (k : Int) = some ((know_Index_score x t (k : Int)).getD 0) ∧ portref2_termScore x t id = some ((know_Index_score x t (k : Int)).getD 0) := fun t ht => by
    obtain ⟨v, v1, v2⟩ := score_eq hx hs ht k id hk
    rw [v1, v2]
    exact ⟨rfl, rfl⟩
  generalize hsc : (fun t => (know_Index_score x t (k : Int)).getD 0) = sc at *
  have hv1 : ∀ t ∈ x.terms, know_Index_score x t (k : Int) = some (sc t) := fun t ht => by rw [(hv t ht).1, ← hsc]
  have hv2 : ∀ t ∈ x.terms, portref2_termScore x t id = some (sc t) := fun t ht => by rw [(hv t ht).2, ← hsc]
  obtain ⟨u, u1, rfl⟩ := rangeB_inv (R := Empty) (b := fun k288 s294 => Option.bind (idx N (k288 : Int)) fun x307 => Option.bind (know_Index_score x x307 (k : Int)) fun x335 => some (.nx (w64 (s294 + x335)))) N.length (fun j z => z = (N.take j).foldl (fun s t => w64 (s + sc t)) s) (s := s) rfl (by
    rintro j z hj rfl
    have hgj : N[j]? = some N[j] := List.getElem?_eq_getElem hj
    have htk : N.take (j + 1) = N.take j ++ [N[j]] := by rw [List.take_add_one, hgj]; rfl
    rw [idx_lt _ _ hj, Option.bind_some, hv1 _ (hN _ (List.getElem_mem hj)), Option.bind_some, htk, List.foldl_append]
    exact ⟨_, rfl, rfl⟩)
  obtain ⟨y, y1, rfl⟩ := rangeB_inv (R := Empty) (b := fun k189 s195 => Option.bind (idx T (k189 : Int)) fun x208 => Option.bind (portref2_termScore x x208 id) fun x237 => some (.nx (⟨s195.id_, w64 (s195.score + x237)⟩ : know_Hit))) T.length (fun j z => z = (⟨id, (T.take j).foldl (fun s t => w64 (s + sc t)) s⟩ : know_Hit)) (s := (⟨id, s⟩ : know_Hit)) rfl (by
    rintro j z hj rfl
    have hgj : T[j]? = some T[j] := List.getElem?_eq_getElem hj
    have htk : T.take (j + 1) = T.take j ++ [T[j]] := by rw [List.take_add_one, hgj]; rfl
    rw [idx_lt _ _ hj, Option.bind_some, hv2 _ (hN _ (hp.mem_iff.2 (List.getElem_mem hj))), Option.bind_some, htk, List.foldl_append]
    exact ⟨_, rfl, rfl⟩)
  rw [List.take_length] at u1 y1
  have e : T.foldl (fun s t => w64 (s + sc t)) s = N.foldl (fun s t => w64 (s + sc t)) s := by
    rw [fold_val sc T s h0, fold_val sc N s h0, sum_perm sc hp]
  rw [e] at y1
  refine ⟨_, u1, y1, ?_⟩
  rw [fold_val sc N s h0, w64_idem]

/-- what is known of a query's parts -/
structure Asked (x : know_Index) (q : know_Query) (NL : List (List know_Term)) : Prop where
  ok : ∀ p ∈ q.parts, PartOk p
  len : NL.length = q.parts.length
  named : ∀ (j : Nat) p, q.parts[j]? = some p → ∃ N, NL[j]? = some N ∧ know_Index_named x p = some N
theorem named_list {x : know_Index} (hx : IndexOk x) (hs : Small x) (q : know_Query) (hq : ∀ p ∈ q.parts, PartOk p) (h20 : q.parts.length ≤ 20) :
    ∃ NL, rangeB (R := (List know_Hit) × Int) (fun k70 s78 => Option.bind (idx q.parts (k70 : Int)) fun x93 => Option.bind (know_Index_named x x93) fun x121 => Option.bind (appendL 5864062014805 s78 ([x121] : List (List know_Term))) fun x141 => some (.nx x141)) q.parts.length 0 ([] : (List (List know_Term))) = some (.fin NL) ∧ Asked x q NL := by
  obtain ⟨NL, h, h1, h2⟩ := rangeB_inv (R := (List know_Hit) × Int) (b := fun k70 s78 => Option.bind (idx q.parts (k70 : Int)) fun x93 => Option.bind (know_Index_named x x93) fun x121 => Option.bind (appendL 5864062014805 s78 ([x121] : List (List know_Term))) fun x141 => some (.nx x141)) q.parts.length (fun k s => s.length = k ∧ ∀ (j : Nat) p, j < k → q.parts[j]? = some p → ∃ N, s[j]? = some N ∧ know_Index_named x p = some N) (s := ([] : (List (List know_Term)))) ⟨rfl, fun j p h => by omega⟩ (by
    rintro k s hk ⟨i1, i2⟩
    have hgk : q.parts[k]? = some q.parts[k] := List.getElem?_eq_getElem hk
    obtain ⟨N, T, n1, _⟩ := terms_of hx hs (hq _ (List.getElem_mem hk))
    rw [idx_lt _ _ hk, Option.bind_some, n1, Option.bind_some]
    unfold appendL
    rw [if_pos (by rw [List.length_singleton]; omega), Option.bind_some]
    refine ⟨_, rfl, by rw [List.length_append, List.length_singleton, i1], fun j p hj hp => ?_⟩
    rcases Nat.lt_or_eq_of_le (Nat.le_of_lt_succ hj) with h | rfl
    · obtain ⟨M, m1, m2⟩ := i2 j p h hp
      exact ⟨M, by rw [List.getElem?_append_left (by omega)]; exact m1, m2⟩
    · rw [hgk] at hp; cases hp
      exact ⟨N, by rw [List.getElem?_append_right (by omega), i1, Nat.sub_self]; rfl, n1⟩)
  exact ⟨NL, h, hq, h1, fun j p hp => h2 j p (List.getElem?_eq_some_iff.1 hp).1 hp⟩

/-- one entry -/
theorem entry_loops {x : know_Index} (hx : IndexOk x) (hs : Small x) {q : know_Query} {NL : List (List know_Term)} (hq : Asked x q NL) (k : Nat) (id : Int) (hk : x.ids[k]? = some id) :
    ∃ f v, rangeB (R := Empty) (fun k206 s212 => Option.bind (Option.bind (idx q.parts (k206 : Int)) fun x233 => Option.bind (if s212.1 = true then (Option.bind (idx NL (k206 : Int)) fun x263 => Option.bind (know_Index_matches x x233 x263 id) fun x270 => some (!(x270 == x233.not_))) else (some false)) fun s252 => if x233.not_ = true then some (s252, s212.2) else Option.bind (idx NL (k206 : Int)) fun x278 => Option.bind (rangeB (R := Empty) (fun k288 s294 => Option.bind (idx x278 (k288 : Int)) fun x307 => Option.bind (know_Index_score x x307 (k : Int)) fun x335 => some (.nx (w64 (s294 + x335)))) x278.length 0 s212.2) fun o285 => o285.andThen (fun y => y.elim) fun s286 => some (s252, s286)) fun s226 => some (.nx (s226.1, s226.2))) q.parts.length 0 (true, 0) = some (.fin (f, v)) ∧ rangeB (R := Empty) (fun k104 s110 => Option.bind (Option.bind (idx q.parts (k104 : Int)) fun x131 => Option.bind (if s110.1 = true then (Option.bind (portref2_matches x x131 id) fun x161 => some (!(x161 == x131.not_))) else (some false)) fun s150 => if x131.not_ = true then some (s150, s110.2.1, s110.2.2) else Option.bind (portref2_termsOf x x131) fun x179 => Option.bind (rangeB (R := Empty) (fun k189 s195 => Option.bind (idx x179 (k189 : Int)) fun x208 => Option.bind (portref2_termScore x x208 id) fun x237 => some (.nx (⟨s195.id_, w64 (s195.score + x237)⟩ : know_Hit))) x179.length 0 s110.2.2) fun o186 => o186.andThen (fun y => y.elim) fun s187 => some (s150, true, s187)) fun s124 => some (.nx (s124.1, s124.2.1, s124.2.2))) q.parts.length 0 (true, false, (⟨id, 0⟩ : know_Hit)) = some (.fin (f, q.parts.any (fun p => !p.not_), ⟨id, v⟩)) := by
  have key := rangeB_sim (R := Empty) (b := fun k206 s212 => Option.bind (Option.bind (idx q.parts (k206 : Int)) fun x233 => Option.bind (if s212.1 = true then (Option.bind (idx NL (k206 : Int)) fun x263 => Option.bind (know_Index_matches x x233 x263 id) fun x270 => some (!(x270 == x233.not_))) else (some false)) fun s252 => if x233.not_ = true then some (s252, s212.2) else Option.bind (idx NL (k206 : Int)) fun x278 => Option.bind (rangeB (R := Empty) (fun k288 s294 => Option.bind (idx x278 (k288 : Int)) fun x307 => Option.bind (know_Index_score x x307 (k : Int)) fun x335 => some (.nx (w64 (s294 + x335)))) x278.length 0 s212.2) fun o285 => o285.andThen (fun y => y.elim) fun s286 => some (s252, s286)) fun s226 => some (.nx (s226.1, s226.2))) (b' := fun k104 s110 => Option.bind (Option.bind (idx q.parts (k104 : Int)) fun x131 => Option.bind (if s110.1 = true then (Option.bind (portref2_matches x x131 id) fun x161 => some (!(x161 == x131.not_))) else (some false)) fun s150 => if x131.not_ = true then some (s150, s110.2.1, s110.2.2) else Option.bind (portref2_termsOf x x131) fun x179 => Option.bind (rangeB (R := Empty) (fun k189 s195 => Option.bind (idx x179 (k189 : Int)) fun x208 => Option.bind (portref2_termScore x x208 id) fun x237 => some (.nx (⟨s195.id_, w64 (s195.score + x237)⟩ : know_Hit))) x179.length 0 s110.2.2) fun o186 => o186.andThen (fun y => y.elim) fun s187 => some (s150, true, s187)) fun s124 => some (.nx (s124.1, s124.2.1, s124.2.2))) q.parts.length (fun _ => False) (fun j s s' => s' = (s.1, (q.parts.take j).any (fun p => !p.not_), (⟨id, s.2⟩ : know_Hit)) ∧ w64 s.2 = s.2) (s := (true, 0)) (s' := (true, false, ⟨id, 0⟩)) ⟨rfl, by decide⟩ (by
    rintro j ⟨f, v⟩ _ hj ⟨rfl, hv⟩
    simp only at hv ⊢
    have hgj : q.parts[j]? = some q.parts[j] := List.getElem?_eq_getElem hj
    have hpo := hq.ok _ (List.getElem_mem hj)
    have htk : q.parts.take (j + 1) = q.parts.take j ++ [q.parts[j]] := by rw [List.take_add_one, hgj]; rfl
    obtain ⟨N, n1, n2⟩ := hq.named j _ hgj
    rw [idx_lt _ _ hj, htk, List.any_append]
    generalize q.parts[j] = p at hpo n2
    obtain ⟨b, b1, b2⟩ := matches_eq hx hs hpo n2 id
    obtain ⟨N', T, m1, m2, m3, m4⟩ := terms_of hx hs hpo
    rw [n2] at m1
    cases m1
    obtain ⟨u, u1, u2, u3⟩ := sum_loops hx hs k id hk m4 m3 v hv
    simp only [Option.bind_some, idx_nat, n1, b1, b2, m2]
    have hf : (if f = true then some (!(b == p.not_)) else some false) = some (f && (!(b == p.not_))) := by cases f <;> rfl
    rw [hf]
    simp only [Option.bind_some]
    cases hn : p.not_ with
    | true =>
      refine Or.inr ⟨_, _, rfl, rfl, ?_, hv⟩
      simp [hn]
    | false =>
      simp only [Bool.false_eq_true, if_false]
      have u1' := u1
      simp only [idx_nat] at u1' u2
      rw [u1', u2]
      refine Or.inr ⟨_, _, rfl, rfl, ?_, u3⟩
      simp [hn])
  rcases key with ⟨_, _, _, h⟩ | ⟨⟨f, v⟩, _, a1, a2, rfl, _⟩
  · exact h.elim
  · rw [List.take_length] at a2
    exact ⟨f, v, a1, a2⟩

theorem found_eq {x : know_Index} (hx : IndexOk x) (hs : Small x) {q : know_Query} {NL : List (List know_Term)} (hq : Asked x q NL) :
    ∃ H, rangeB (R := (List know_Hit) × Int) (fun k52 s60 => Option.bind (Option.bind (idx x.ids (k52 : Int)) fun x85 => Option.bind (rangeB (R := Empty) (fun k104 s110 => Option.bind (Option.bind (idx q.parts (k104 : Int)) fun x131 => Option.bind (if s110.1 = true then (Option.bind (portref2_matches x x131 x85) fun x161 => some (!(x161 == x131.not_))) else (some false)) fun s150 => if x131.not_ = true then some (s150, s110.2.1, s110.2.2) else Option.bind (portref2_termsOf x x131) fun x179 => Option.bind (rangeB (R := Empty) (fun k189 s195 => Option.bind (idx x179 (k189 : Int)) fun x208 => Option.bind (portref2_termScore x x208 x85) fun x237 => some (.nx (⟨s195.id_, w64 (s195.score + x237)⟩ : know_Hit))) x179.length 0 s110.2.2) fun o186 => o186.andThen (fun y => y.elim) fun s187 => some (s150, true, s187)) fun s124 => some (.nx (s124.1, s124.2.1, s124.2.2))) q.parts.length 0 (true, false, (⟨x85, 0⟩ : know_Hit))) fun o101 => o101.andThen (fun y => y.elim) fun s102 => Option.bind (if (s102.1 && s102.2.1) = true then Option.bind (appendL 8796093022208 s60 ([s102.2.2] : List know_Hit)) fun x269 => some x269 else some s60) fun s254 => some s254) fun s76 => some (.nx s76)) x.ids.length 0 ([] : (List know_Hit)) = some (.fin H) ∧ H.length ≤ 200 ∧ (q.parts.any (fun p => !p.not_) = false → H = []) ∧ (q.parts.any (fun p => !p.not_) = true → rangeB (R := (List know_Hit) × Int) (fun k162 s170 => Option.bind (Option.bind (idx x.ids (k162 : Int)) fun x195 => Option.bind (rangeB (R := Empty) (fun k206 s212 => Option.bind (Option.bind (idx q.parts (k206 : Int)) fun x233 => Option.bind (if s212.1 = true then (Option.bind (idx NL (k206 : Int)) fun x263 => Option.bind (know_Index_matches x x233 x263 x195) fun x270 => some (!(x270 == x233.not_))) else (some false)) fun s252 => if x233.not_ = true then some (s252, s212.2) else Option.bind (idx NL (k206 : Int)) fun x278 => Option.bind (rangeB (R := Empty) (fun k288 s294 => Option.bind (idx x278 (k288 : Int)) fun x307 => Option.bind (know_Index_score x x307 (k162 : Int)) fun x335 => some (.nx (w64 (s294 + x335)))) x278.length 0 s212.2) fun o285 => o285.andThen (fun y => y.elim) fun s286 => some (s252, s286)) fun s226 => some (.nx (s226.1, s226.2))) q.parts.length 0 (true, 0)) fun o203 => o203.andThen (fun y => y.elim) fun s204 => Option.bind (if s204.1 = true then Option.bind (appendL 8796093022208 s170 ([(⟨x195, s204.2⟩ : know_Hit)] : List know_Hit)) fun x362 => some x362 else some s170) fun s347 => some s347) fun s186 => some (.nx s186)) x.ids.length 0 ([] : (List know_Hit)) = some (.fin H)) := by
  have key := rangeB_sim (R := (List know_Hit) × Int) (b := fun k162 s170 => Option.bind (Option.bind (idx x.ids (k162 : Int)) fun x195 => Option.bind (rangeB (R := Empty) (fun k206 s212 => Option.bind (Option.bind (idx q.parts (k206 : Int)) fun x233 => Option.bind (if s212.1 = true then (Option.bind (idx NL (k206 : Int)) fun x263 => Option.bind (know_Index_matches x x233 x263 x195) fun x270 => some (!(x270 == x233.not_))) else (some false)) fun s252 => if x233.not_ = true then some (s252, s212.2) else Option.bind (idx NL (k206 : Int)) fun x278 => Option.bind (rangeB (R := Empty) (fun k288 s294 => Option.bind (idx x278 (k288 : Int)) fun x307 => Option.bind (know_Index_score x x307 (k162 : Int)) fun x335 => some (.nx (w64 (s294 + x335)))) x278.length 0 s212.2) fun o285 => o285.andThen (fun y => y.elim) fun s286 => some (s252, s286)) fun s226 => some (.nx (s226.1, s226.2))) q.parts.length 0 (true, 0)) fun o203 => o203.andThen (fun y => y.elim) fun s204 => Option.bind (if s204.1 = true then Option.bind (appendL 8796093022208 s170 ([(⟨x195, s204.2⟩ : know_Hit)] : List know_Hit)) fun x362 => some x362 else some s170) fun s347 => some s347) fun s186 => some (.nx s186)) (b' := fun k52 s60 => Option.bind (Option.bind (idx x.ids (k52 : Int)) fun x85 => Option.bind (rangeB (R := Empty) (fun k104 s110 => Option.bind (Option.bind (idx q.parts (k104 : Int)) fun x131 => Option.bind (if s110.1 = true then (Option.bind (portref2_matches x x131 x85) fun x161 => some (!(x161 == x131.not_))) else (some false)) fun s150 => if x131.not_ = true then some (s150, s110.2.1, s110.2.2) else Option.bind (portref2_termsOf x x131) fun x179 => Option.bind (rangeB (R := Empty) (fun k189 s195 => Option.bind (idx x179 (k189 : Int)) fun x208 => Option.bind (portref2_termScore x x208 x85) fun x237 => some (.nx (⟨s195.id_, w64 (s195.score + x237)⟩ : know_Hit))) x179.length 0 s110.2.2) fun o186 => o186.andThen (fun y => y.elim) fun s187 => some (s150, true, s187)) fun s124 => some (.nx (s124.1, s124.2.1, s124.2.2))) q.parts.length 0 (true, false, (⟨x85, 0⟩ : know_Hit))) fun o101 => o101.andThen (fun y => y.elim) fun s102 => Option.bind (if (s102.1 && s102.2.1) = true then Option.bind (appendL 8796093022208 s60 ([s102.2.2] : List know_Hit)) fun x269 => some x269 else some s60) fun s254 => some s254) fun s76 => some (.nx s76)) x.ids.length (fun _ => False) (fun k s s' => s'.length ≤ k ∧ (q.parts.any (fun p => !p.not_) = false → s' = []) ∧ (q.parts.any (fun p => !p.not_) = true → s = s')  ∧ s.length ≤ k) (s := []) (s' := []) ⟨Nat.le_refl _, fun _ => rfl, fun _ => rfl, Nat.le_refl _⟩ (by
    rintro k s s' hk ⟨hle, i1, i2, i3⟩
    have hlen := hx.len
    have hid : x.ids[k]? = some x.ids[k] := List.getElem?_eq_getElem hk
    rw [idx_lt _ _ hk]
    generalize x.ids[k] = id at hid
    obtain ⟨f, v, h1, h2⟩ := entry_loops hx hs hq k id hid
    simp only [Option.bind_some]
    rw [h1, h2]
    have hap : ∀ z : List know_Hit, z.length ≤ k → appendL 8796093022208 z ([(⟨id, v⟩ : know_Hit)] : List know_Hit) = some (z ++ [⟨id, v⟩]) := fun z hz => by
      unfold appendL
      rw [if_pos (by rw [List.length_singleton]; omega)]
    simp only [Option.bind_some, Lp.andThen_fin, hap s i3, hap s' hle]
    cases f with
    | false => exact Or.inr ⟨s, s', rfl, rfl, by omega, i1, i2, by omega⟩
    | true =>
      cases ha : q.parts.any (fun p => !p.not_) with
      | false =>
        rw [ha] at i1 i2
        exact Or.inr ⟨s ++ [⟨id, v⟩], s', rfl, rfl, by omega, fun _ => i1 rfl, (fun h => by cases h), by rw [List.length_append, List.length_singleton]; omega⟩
      | true =>
        rw [ha] at i1 i2
        have := i2 rfl
        subst this
        exact Or.inr ⟨s ++ [⟨id, v⟩], s ++ [⟨id, v⟩], rfl, rfl, by rw [List.length_append, List.length_singleton]; omega, (fun h => by cases h), fun _ => rfl, by rw [List.length_append, List.length_singleton]; omega⟩)
  rcases key with ⟨_, _, _, h⟩ | ⟨H, H', a1, a2, a3, a4, a5, a6⟩
  · exact h.elim
  · exact ⟨H', a2, Nat.le_trans a3 hx.len, a4, fun h => by rw [a1, a5 h]⟩

theorem search_eq (x : know_Index) (hs : Small x) (q : know_Query) (hqs : sizesOk q) (most : Int) : ∃ r, know_Search x q most = some r ∧ portref2_SearchOf x q most = some r := by
  obtain ⟨c, c1, c2, c3⟩ := index_eq x hs
  obtain ⟨d, d1, d2, d3⟩ := query_eq q hqs
  unfold know_Search portref2_SearchOf
  simp only [c1, c2, d1, d2, Option.bind_some]
  cases h0 : (c != 0) with
  | true => exact ⟨_, rfl, rfl⟩
  | false =>
  have hx := c3 (by simpa using h0)
  simp only [Bool.false_eq_true, if_false]
  cases h1 : (d.2 != 0) with
  | true => exact ⟨_, rfl, rfl⟩
  | false =>
  simp only [Bool.false_eq_true, if_false]
  obtain ⟨h20, hgood⟩ := d3 (by simpa using h1)
  have hpo : ∀ p ∈ q.parts, PartOk p := fun p hp => part_ok (hgood p hp).1 (hgood p hp).2 (hqs p hp).2
  have e1 : (!(know_within most 0 100)) = ((decide (most < 0)) || (decide ((100 : Int) < most))) := by
    rw [Bool.eq_iff_iff]; simp [know_within] <;> omega
  rw [e1]
  cases h2 : ((decide (most < 0)) || (decide ((100 : Int) < most))) with
  | true => exact ⟨_, rfl, rfl⟩
  | false =>
  simp only [Bool.false_eq_true, if_false]
  have hm0 : 0 ≤ most := by simp at h2; omega
  rw [containsP_val q.parts (fun y47 => know_Search_1 y47) (fun p => !p.not_) (fun _ _ => rfl), Option.bind_some]
  obtain ⟨NL, n1, hq⟩ := named_list hx hs q hpo h20
  obtain ⟨H, g1, g2, g3, g4⟩ := found_eq hx hs hq
  obtain ⟨R, r1, r2⟩ := ranked_eq H g2 most hm0
  cases ha : q.parts.any (fun p => !p.not_) with
  | false =>
    have hH := g3 ha
    subst hH
    have hR : R = [] := by
      unfold know_ranked sortFuncL at r1
      split at r1
      · simp only [List.mergeSort_nil, Option.bind_some] at r1
        have e : (if (([] : List know_Hit).length : Int) < most then (([] : List know_Hit).length : Int) else most) = ((0 : Nat) : Int) ∨ most = 0 := by
          by_cases h : (0 : Int) < most
          · left; rw [if_pos (by simpa using h)]; rfl
          · right; omega
        have e2 : sliceL ([] : List know_Hit) none (some (if (([] : List know_Hit).length : Int) < most then (([] : List know_Hit).length : Int) else most)) = some [] := by
          have e3 : (if (([] : List know_Hit).length : Int) < most then (([] : List know_Hit).length : Int) else most) = ((0 : Nat) : Int) := by
            rcases e with e | e
            · exact e
            · rw [e]; rfl
          rw [e3]
          exact take_val ([] : List know_Hit) 0 (Nat.le_refl _)
        rw [e2] at r1
        simp only [Option.bind_some, slices_Clone_Lknow_Hit_know_Hit, appendL] at r1
        simpa using r1.symm
      · cases r1
    subst hR
    refine ⟨([], 0), rfl, ?_⟩
    rw [g1]
    simp only [Option.bind_some, Lp.andThen_fin, r2]
  | true =>
    simp only [Bool.not_true, Bool.false_eq_true, if_false]
    rw [n1]
    simp only [Option.bind_some, Lp.andThen_fin]
    rw [g4 ha, g1]
    simp only [Option.bind_some, Lp.andThen_fin, r1, r2]
    exact ⟨_, rfl, rfl⟩

theorem searches_true (x : know_Index) (q : know_Query) (most : Int) (b2 : Nat) (hb : bindex x + ((q.parts.map fun p : know_Part => 1 + (1 + ((p.words.map fun s => s.size + 1).sum + 1))).sum + 1) + b2 ≤ 1048576) : portlaw2_KnowSearches x q most = some true := by
  have hok : sizesOk q := by
    intro p hp
    have h1 := bulk_parts q.parts p hp
    obtain ⟨h3, h4⟩ := bulk_words p.words
    exact ⟨fun w hw => by have := h3 w hw; omega, by omega⟩
  obtain ⟨r, r1, r2⟩ := search_eq x (small_of x (by omega)) q hok most
  unfold portlaw2_KnowSearches
  rw [r1, r2]
  simp only [Option.bind_some, beq_self_eq_true, if_true, equal_hits]
end Go.Proofs.YtkjlbaacbkdnfaaGreatDoor.M
