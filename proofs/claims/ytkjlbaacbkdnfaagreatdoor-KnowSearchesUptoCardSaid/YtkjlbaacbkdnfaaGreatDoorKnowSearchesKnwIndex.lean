/-
  CheckIndex and its reference agree; what an index without a fault is: plain part.
-/
import Derived.Test.YtkjlbaacbkdnfaaGreatDoorKnowSearchesCmpBytes
import Derived.Test.YtkjlbaacbkdnfaaGreatDoorKnowSearchesWrdWords
namespace Go.Proofs.YtkjlbaacbkdnfaaGreatDoor.M
open Go Go.Pu
set_option linter.unusedSimpArgs false
set_option linter.unusedVariables false

theorem mid_half (n : Nat) (hn : n ≤ 4000000000000000000) : Option.bind (shr .u64 (IntKind.wrap .u64 (w64 (n : Int))) 1) (fun x => some (IntKind.wrap .i64 x)) = some ((n / 2 : Nat) : Int) := by
  have h1 : w64 (n : Int) = (n : Int) := w64_id (by omega) (by omega)
  have h2 : IntKind.wrap .u64 (n : Int) = (n : Int) := by
    simp only [IntKind.wrap, IntKind.bits, IntKind.signed]
    simp
    omega
  have h3 : IntKind.wrap .i64 ((n : Int).fdiv 2) = ((n / 2 : Nat) : Int) := by
    have : (n : Int).fdiv 2 = ((n / 2 : Nat) : Int) := by
      rw [Int.fdiv_eq_ediv_of_nonneg _ (by decide)]
      omega
    rw [this]
    exact w64_id (by omega) (by omega)
  rw [h1, h2, shr, if_neg (by decide)]
  have e : (2 : Int) ^ (min (1 : Int).toNat IntKind.u64.bits) = 2 := by decide
  rw [e]
  simp only [Option.bind_some, h3]
/-- the loop of a search in a sorted list: lo x says that x lies ahead of the place -/
theorem search_loop {α R : Type} {l : List α} (hl : l.length ≤ 2000000000000000000) (f : α → Option Bool) (lo : α → Bool) (hf : ∀ x ∈ l, f x = some (lo x)) (hm : ∀ (p q : Nat) (x y : α), p < q → l[p]? = some x → l[q]? = some y → lo y = true → lo x = true)
    (body : Int × Int → Option (Ctl (Int × Int) R)) (hbody : ∀ s : Int × Int, body s = if (decide (s.1 < s.2)) = true then Option.bind (shr .u64 (IntKind.wrap .u64 (w64 (s.1 + s.2))) 1) (fun v => Option.bind (idx l (IntKind.wrap .i64 v)) fun x => Option.bind (f x) fun b => if b = true then some (.nx (w64 ((IntKind.wrap .i64 v) + 1), s.2)) else some (.nx (s.1, IntKind.wrap .i64 v))) else some (.bk (s.1, s.2))) :
    ∃ a : Nat, a ≤ l.length ∧ whileB body (0, (l.length : Int)) = some (.fin ((a : Int), (a : Int))) ∧ (∀ q x, q < a → l[q]? = some x → lo x = true) ∧ ∀ q x, a ≤ q → l[q]? = some x → lo x = false := by
  obtain ⟨o, ho, a, rfl, ha, hlo, hhi⟩ := whileB_spec (R := R) (body := body)
    (fun s => ∃ a b : Nat, s = ((a : Int), (b : Int)) ∧ a ≤ b ∧ b ≤ l.length ∧ (∀ q x, q < a → l[q]? = some x → lo x = true) ∧ ∀ q x, b ≤ q → l[q]? = some x → lo x = false) (fun s => (s.2 - s.1).toNat)
    (fun o => ∃ a : Nat, o = .fin ((a : Int), (a : Int)) ∧ a ≤ l.length ∧ (∀ q x, q < a → l[q]? = some x → lo x = true) ∧ ∀ q x, a ≤ q → l[q]? = some x → lo x = false) (s := (0, (l.length : Int)))
    ⟨0, l.length, rfl, Nat.zero_le _, Nat.le_refl _, fun q x h => absurd h (Nat.not_lt_zero _), fun q x h hx => absurd (List.getElem?_eq_some_iff.1 hx).1 (by omega)⟩ (by
    rintro _ ⟨a, b, rfl, hab, hb, h1, h2⟩
    rw [hbody]
    simp only
    by_cases hlt : (a : Int) < (b : Int)
    · have hm' := mid_half (a + b) (by omega)
      rw [if_pos (by simpa using hlt)]
      cases hsh : shr .u64 (IntKind.wrap .u64 (w64 ((a : Int) + (b : Int)))) 1 with
      | none => rw [show ((a + b : Nat) : Int) = (a : Int) + (b : Int) by omega, hsh] at hm'; simp at hm'
      | some v =>
        rw [show ((a + b : Nat) : Int) = (a : Int) + (b : Int) by omega, hsh] at hm'
        simp only [Option.bind_some, Option.some.injEq] at hm'
        have hmb : (a + b) / 2 < l.length := by omega
        have hx : l[(a + b) / 2]? = some l[(a + b) / 2] := List.getElem?_eq_getElem hmb
        generalize l[(a + b) / 2] = x at hx
        simp only [Option.bind_some, hm', idx_nat, hx, hf x (List.mem_of_getElem? hx)]
        cases hd : lo x with
        | true =>
          simp only [if_true]
          rw [w64_id (by omega) (by omega)]
          refine ⟨_, rfl, ⟨(a + b) / 2 + 1, b, by congr 1, by omega, hb, fun q y hq hy => ?_, h2⟩, by simp only; omega⟩
          rcases Nat.lt_or_eq_of_le (Nat.le_of_lt_succ hq) with h | rfl
          · exact hm q _ y x h hy hx hd
          · rw [hx] at hy; cases hy; exact hd
        | false =>
          simp only [Bool.false_eq_true, if_false]
          refine ⟨_, rfl, ⟨a, (a + b) / 2, rfl, by omega, by omega, h1, fun q y hq hy => ?_⟩, by simp only; omega⟩
          rcases Nat.lt_or_eq_of_le hq with h | rfl
          · rw [← Bool.not_eq_true]
            intro hy'
            rw [hm _ q x y h hx hy hy'] at hd
            cases hd
          · rw [hx] at hy; cases hy; exact hd
    · rw [if_neg (by simpa using hlt)]
      obtain rfl : a = b := by omega
      exact ⟨_, rfl, a, rfl, hb, h1, h2⟩)
  exact ⟨a, ha, ho, hlo, hhi⟩

def rising (l : List Int) : Prop := ∀ (i j : Nat) (a b : Int), i < j → l[i]? = some a → l[j]? = some b → a < b
/-- a search among rising numbers -/
theorem bsearch_val {l : List Int} (hl : l.length ≤ 2000000000000000000) (hs : rising l) (v : Int) : ∃ a : Nat, slices_BinarySearch_Lint_int l v = some ((a : Int), decide (v ∈ l)) ∧ (v ∈ l → l[a]? = some v ∧ slices_Index_Lint_int l v = some (a : Int)) ∧ (v ∉ l → slices_Index_Lint_int l v = some (-1)) := by
  unfold slices_BinarySearch_Lint_int
  obtain ⟨a, ha, e, hlo, hhi⟩ := search_loop (R := Int × Bool) (l := l) hl (fun x => some (decide (x < v))) (fun x => decide (x < v)) (fun _ _ => rfl) (fun p q x y hpq hx hy h => by
    have := hs p q x y hpq hx hy
    simp at h ⊢
    omega) (fun s10 => if (decide (s10.1 < s10.2)) = true then Option.bind (Option.bind (shr .u64 (IntKind.wrap .u64 (w64 (s10.1 + s10.2))) 1) fun x26 => Option.bind (idx l (IntKind.wrap .i64 x26)) fun x27 => Option.bind (if (cmp_Less_int x27 v) = true then some (w64 ((IntKind.wrap .i64 x26) + 1), s10.2) else some (s10.1, IntKind.wrap .i64 x26)) fun s32 => some (s32.1, s32.2)) fun s21 => some (.nx (s21.1, s21.2)) else some (.bk (s10.1, s10.2))) (fun s => by
    split
    · cases shr .u64 (IntKind.wrap .u64 (w64 (s.1 + s.2))) 1 with
      | none => rfl
      | some u =>
        simp only [Option.bind_some]
        cases idx l (IntKind.wrap .i64 u) with
        | none => rfl
        | some x =>
          simp only [Option.bind_some, cmp_Less_int, cmp_isNaN_int, bne_self_eq_false, Bool.false_and, Bool.false_or]
          split <;> rfl
    · rfl)
  have hidx : ∀ a : Nat, l[a]? = some v → slices_Index_Lint_int l v = some (a : Int) := fun a hv => by
    unfold slices_Index_Lint_int
    obtain ⟨o, ho, hq⟩ := rangeB_spec (R := Int) (body := fun k6 (_ : Unit) => Option.bind (idx l (k6 : Int)) fun x21 => if (v == x21) = true then some (.rt (k6 : Int)) else some (.nx ())) l.length (fun k _ => k ≤ a) (fun o => o = .rt (a : Int)) (s := ()) (Nat.zero_le _) (by
      intro k _ hk hI
      rw [idx_lt l k hk, Option.bind_some]
      by_cases hx : v = l[k]
      · rw [if_pos (by simpa using hx)]
        refine ⟨_, rfl, ?_⟩
        rcases Nat.lt_or_eq_of_le hI with h | rfl
        · have := hs k a l[k] v h (List.getElem?_eq_getElem hk) hv
          omega
        · rfl
      · rw [if_neg (by simpa using hx)]
        refine ⟨_, rfl, ?_⟩
        rcases Nat.lt_or_eq_of_le hI with h | rfl
        · exact h
        · rw [List.getElem?_eq_getElem hk] at hv; cases hv; exact absurd rfl hx) (fun _ h => by
      have := (List.getElem?_eq_some_iff.1 hv).1
      exact absurd h (by omega))
    rw [ho, hq]
    rfl
  have hno : v ∉ l → slices_Index_Lint_int l v = some (-1) := fun hv => by
    unfold slices_Index_Lint_int
    obtain ⟨t, ho, _⟩ := rangeB_inv (R := Int) (b := fun k6 (_ : Unit) => Option.bind (idx l (k6 : Int)) fun x21 => if (v == x21) = true then some (.rt (k6 : Int)) else some (.nx ())) l.length (fun _ _ => True) (s := ()) trivial (by
      intro k _ hk _
      rw [idx_lt l k hk, Option.bind_some, if_neg (by
        rw [beq_iff_eq]
        intro h
        exact hv (h ▸ List.getElem_mem hk))]
      exact ⟨_, rfl, trivial⟩)
    rw [ho]
    rfl
  have hat : l[a]? = some v ↔ v ∈ l := ⟨fun h => List.mem_of_getElem? h, fun h => by
    obtain ⟨j, hj⟩ := List.mem_iff_getElem?.1 h
    rcases Nat.lt_trichotomy j a with h1 | h1 | h1
    · have := hlo j v h1 hj; simp at this
    · rw [← h1]; exact hj
    · have hal : a < l.length := by have := (List.getElem?_eq_some_iff.1 hj).1; omega
      have h2 := hhi a l[a] (Nat.le_refl _) (List.getElem?_eq_getElem hal)
      have h3 := hs a j l[a] v h1 (List.getElem?_eq_getElem hal) hj
      simp at h2
      omega⟩
  refine ⟨a, ?_, fun hv => ⟨hat.2 hv, hidx a (hat.2 hv)⟩, hno⟩
  rw [e, Option.bind_some, Lp.andThen_fin]
  by_cases hal : (a : Int) < (l.length : Int)
  · have hx : l[a]? = some l[a] := List.getElem?_eq_getElem (by omega)
    rw [if_pos (by simpa using hal)]
    generalize l[a] = x at hx
    simp only [idx_nat, hx, Option.bind_some, slices_isNaN_int, bne_self_eq_false, Bool.false_and]
    by_cases hxv : x = v
    · subst hxv
      rw [if_pos (by simp)]
      have : x ∈ l := List.mem_of_getElem? hx
      simp [this]
    · rw [if_neg (by simpa using hxv)]
      have : v ∉ l := fun h => by rw [hat.2 h] at hx; cases hx; exact hxv rfl
      simp [this]
  · rw [if_neg (by simpa using hal)]
    have : v ∉ l := fun h => by have := (List.getElem?_eq_some_iff.1 (hat.2 h)).1; omega
    simp [this]

theorem or_er (a b : Int) : cmp_Or_api_Errno [a, b] = some (if a ≠ 0 then a else b) := by
  by_cases ha : a = 0 <;> by_cases hb : b = 0 <;> simp [cmp_Or_api_Errno, rangeB, idx, ha, hb, Lp.andThen]

/-- positions that may be: rising, small -/
def PosOk (l : List Int) : Prop := rising l ∧ ∀ v ∈ l, 0 ≤ v ∧ v < 20000
theorem positions_eq (l : List Int) (hl : l.length ≤ 2000000000000000000) (size : Int) (h0 : 0 ≤ size) (h1 : size ≤ 20000) : ∃ c, know_checkPositions l size = some c ∧ portref2_positionsFault l size = some c ∧ (c = 0 → PosOk l) := by
  unfold know_checkPositions portref2_positionsFault
  rcases rangeB_sim (R := Int) (b := fun k6 (_ : Unit) => Option.bind (idx l (k6 : Int)) fun x21 => if (!(know_within x21 0 (w64 (size - 1)))) = true then some (.rt 2) else some (.nx ())) (b' := fun k6 (_ : Unit) => Option.bind (idx l (k6 : Int)) fun x21 => if ((decide (x21 < 0)) || (decide (size ≤ x21))) = true then some (.rt 2) else some (.nx ())) l.length (fun r => r = 2) (fun k _ _ => ∀ (j : Nat) (v : Int), j < k → l[j]? = some v → 0 ≤ v ∧ v < 20000) (s := ()) (s' := ()) (fun j v h => by omega) (by
    rintro k _ _ hk hI
    have hvk : l[k]? = some l[k] := List.getElem?_eq_getElem hk
    rw [idx_lt l k hk, Option.bind_some, Option.bind_some]
    generalize l[k] = v at hvk
    have e : (!(know_within v 0 (w64 (size - 1)))) = ((decide (v < 0)) || (decide (size ≤ v))) := by
      rw [w64_id (by omega) (by omega), Bool.eq_iff_iff]
      simp [know_within]
      omega
    rw [e]
    cases hb : ((decide (v < 0)) || (decide (size ≤ v)))
    · refine Or.inr ⟨_, _, rfl, rfl, fun j u hj hu => ?_⟩
      rcases Nat.lt_or_eq_of_le (Nat.le_of_lt_succ hj) with h | rfl
      · exact hI j u h hu
      · rw [hvk] at hu; cases hu
        simp at hb
        omega
    · exact Or.inl ⟨_, rfl, rfl, rfl⟩) with ⟨r, a1, a2, rfl⟩ | ⟨_, _, a1, a2, hin⟩
  · rw [a1, a2]
    exact ⟨2, rfl, rfl, fun h => absurd h (by decide)⟩
  · rw [a1, a2]
    simp only [Option.bind_some, Lp.andThen_fin]
    obtain ⟨o, ho, hq⟩ := rangeB_spec (R := Int) (body := fun k32 (_ : Unit) => Option.bind (idx l (k32 : Int)) fun x47 => Option.bind (if (decide ((0 : Int) < (k32 : Int))) = true then (Option.bind (idx l (w64 ((k32 : Int) - 1))) fun x53 => some (decide (x47 ≤ x53))) else (some false)) fun s52 => if s52 = true then some (.rt 5) else some (.nx ())) l.length (fun k _ => ∀ (i j : Nat) (a b : Int), i < j → j < k → l[i]? = some a → l[j]? = some b → a < b) (fun o => o = .rt 5 ∨ (o = .fin () ∧ rising l)) (s := ()) (fun i j a b h h' => by omega) (by
      intro k _ hk hI
      have hvk : l[k]? = some l[k] := List.getElem?_eq_getElem hk
      rw [idx_lt l k hk, Option.bind_some]
      generalize l[k] = v at hvk
      have hw : ∃ b, (if (decide ((0 : Int) < (k : Int))) = true then (Option.bind (idx l (w64 ((k : Int) - 1))) fun x53 => some (decide (v ≤ x53))) else (some false)) = some b ∧ (b = false → ∀ a, 0 < k → l[k - 1]? = some a → a < v) := by
        by_cases h0 : 0 < k
        · have e : w64 ((k : Int) - 1) = ((k - 1 : Nat) : Int) := by rw [w64_id (by omega) (by omega)]; omega
          have hk1 : l[k - 1]? = some (l[k - 1]'(by omega)) := List.getElem?_eq_getElem (by omega)
          rw [if_pos (by simpa using h0), e, idx_nat, hk1, Option.bind_some]
          refine ⟨_, rfl, fun hb a _ ha => ?_⟩
          cases ha
          rw [decide_eq_false_iff_not] at hb
          omega
        · rw [if_neg (by simpa using h0)]
          exact ⟨_, rfl, fun _ a h => absurd h h0⟩
      obtain ⟨b, hb, hbo⟩ := hw
      rw [hb]
      cases b
      · refine ⟨_, rfl, fun i j a c hij hj ha hc => ?_⟩
        rcases Nat.lt_or_eq_of_le (Nat.le_of_lt_succ hj) with h | rfl
        · exact hI i j a c hij h ha hc
        · rw [hvk] at hc; cases hc
          have hk1 : l[j - 1]? = some (l[j - 1]'(by omega)) := List.getElem?_eq_getElem (by omega)
          have h1 := hbo rfl _ (by omega) hk1
          rcases Nat.lt_or_eq_of_le (Nat.le_sub_one_of_lt hij) with h | rfl
          · have := hI i (j - 1) a _ h (by omega) ha hk1
            omega
          · rw [hk1] at ha; cases ha; exact h1
      · exact ⟨_, rfl, Or.inl rfl⟩) (fun _ hI => Or.inr ⟨rfl, fun i j a b hij ha hb => hI i j a b hij (List.getElem?_eq_some_iff.1 hb).1 ha hb⟩)
    rw [ho]
    simp only [Option.bind_some]
    rcases hq with rfl | ⟨rfl, hr⟩
    · exact ⟨5, rfl, rfl, fun h => absurd h (by decide)⟩
    · refine ⟨0, rfl, rfl, fun _ => ⟨hr, fun v hv => ?_⟩⟩
      obtain ⟨j, hj⟩ := List.mem_iff_getElem?.1 hv
      exact hin j v (List.getElem?_eq_some_iff.1 hj).1 hj

/-- what CheckIndex leaves -/
structure TermOk (x : know_Index) (t : know_Term) : Prop where
  ne : t.list_ ≠ []
  ids : ∀ p ∈ t.list_, p.id_ ∈ x.ids
  rise : ∀ (i j : Nat) (p q : know_Posting), i < j → t.list_[i]? = some p → t.list_[j]? = some q → p.id_ < q.id_
  pos : ∀ p ∈ t.list_, PosOk p.title ∧ PosOk p.body
structure IdsOk (x : know_Index) : Prop where
  len : x.ids.length ≤ 200
  sizes : x.sizes.length = x.ids.length
  rise : rising x.ids
  range : ∀ v ∈ x.ids, 1 ≤ v ∧ v ≤ 3000000
  size : ∀ v ∈ x.sizes, 0 ≤ v ∧ v ≤ 20000
structure IndexOk (x : know_Index) : Prop extends IdsOk x where
  terms : ∀ t ∈ x.terms, TermOk x t
  words : ∀ (i j : Nat) (t u : know_Term), i < j → x.terms[i]? = some t → x.terms[j]? = some u → cmpS t.word u.word < 0

/-- the sizes of an index that a machine can hold -/
structure Small (x : know_Index) : Prop where
  terms : x.terms.length ≤ 1048576
  word : ∀ t ∈ x.terms, t.word.size ≤ 1048576
  list : ∀ t ∈ x.terms, t.list_.length ≤ 1048576
  posts : ∀ t ∈ x.terms, ∀ p ∈ t.list_, p.title.length ≤ 1048576 ∧ p.body.length ≤ 1048576

theorem term_eq {x : know_Index} (hx : IdsOk x) (t : know_Term) (hne : t.list_ ≠ []) (hl : t.list_.length ≤ 1048576) (hp : ∀ p ∈ t.list_, p.title.length ≤ 1048576 ∧ p.body.length ≤ 1048576) :
    ∃ c, know_Index_checkTerm x t = some c ∧ (c = 0 → TermOk x t) ∧
      rangeB (R := Int) (fun k191 (_ : Unit) => Option.bind (α := Lp _ _) (Option.bind (idx t.list_ (k191 : Int)) fun x218 => Option.bind (slices_Index_Lint_int x.ids x218.id_) fun x246 => if (decide (x246 < 0)) = true then some (.rt 7) else Option.bind (if (decide ((0 : Int) < (k191 : Int))) = true then (Option.bind (idx t.list_ (w64 ((k191 : Int) - 1))) fun x255 => some (decide (x218.id_ ≤ x255.id_))) else (some false)) fun s249 => if s249 = true then some (.rt 5) else if ((w64 ((x218.title.length : Int) + (x218.body.length : Int))) == 0) = true then some (.rt 1) else Option.bind (rangeB (fun k295 _ => Option.bind (idx ([x218.title, x218.body] : List (List Int)) (k295 : Int)) fun x310 => Option.bind (idx x.sizes x246) fun x321 => Option.bind (portref2_positionsFault x310 x321) fun x325 => if (x325 != 0) = true then some (.rt x325) else some (.nx ())) (([x218.title, x218.body] : List (List Int)).length) 0 ()) fun o292 => o292.andThen (fun y => some (.rt y)) fun s293 => some (.fin ())) fun o210 => o210.andThen (fun y => some (.rt y)) fun s211 => some (.nx ())) t.list_.length 0 () = some (if c = 0 then .fin () else .rt c) := by
  unfold know_Index_checkTerm
  rcases rangeB_sim (R := Int) (b := fun k29 s35 => Option.bind (idx t.list_ (k29 : Int)) fun x48 => Option.bind (slices_BinarySearch_Lint_int x.ids x48.id_) fun x76 => if (!x76.2) = true then some (.rt 7) else if (decide (x48.id_ ≤ s35)) = true then some (.rt 5) else if ((w64 ((x48.title.length : Int) + (x48.body.length : Int))) == 0) = true then some (.rt 1) else Option.bind (idx x.sizes x76.1) fun x98 => Option.bind (know_checkPositions x48.title x98) fun x102 => Option.bind (know_checkPositions x48.body x98) fun x114 => Option.bind (cmp_Or_api_Errno ([x102, x114] : List Int)) fun x123 => if (x123 != 0) = true then some (.rt x123) else some (.nx x48.id_))
    (b' := fun k191 (_ : Unit) => Option.bind (α := Lp _ _) (Option.bind (idx t.list_ (k191 : Int)) fun x218 => Option.bind (slices_Index_Lint_int x.ids x218.id_) fun x246 => if (decide (x246 < 0)) = true then some (.rt 7) else Option.bind (if (decide ((0 : Int) < (k191 : Int))) = true then (Option.bind (idx t.list_ (w64 ((k191 : Int) - 1))) fun x255 => some (decide (x218.id_ ≤ x255.id_))) else (some false)) fun s249 => if s249 = true then some (.rt 5) else if ((w64 ((x218.title.length : Int) + (x218.body.length : Int))) == 0) = true then some (.rt 1) else Option.bind (rangeB (fun k295 _ => Option.bind (idx ([x218.title, x218.body] : List (List Int)) (k295 : Int)) fun x310 => Option.bind (idx x.sizes x246) fun x321 => Option.bind (portref2_positionsFault x310 x321) fun x325 => if (x325 != 0) = true then some (.rt x325) else some (.nx ())) (([x218.title, x218.body] : List (List Int)).length) 0 ()) fun o292 => o292.andThen (fun y => some (.rt y)) fun s293 => some (.fin ())) fun o210 => o210.andThen (fun y => some (.rt y)) fun s211 => some (.nx ()))
    t.list_.length (fun r => r ≠ 0) (fun k s _ => (k = 0 → s = 0) ∧ (∀ p, 0 < k → t.list_[k - 1]? = some p → s = p.id_) ∧ (∀ j p, j < k → t.list_[j]? = some p → p.id_ ∈ x.ids) ∧ ∀ (i j : Nat) (p q : know_Posting), (i < j → j < k → t.list_[i]? = some p → t.list_[j]? = some q → p.id_ < q.id_) ∧ (j < k → t.list_[j]? = some q → PosOk q.title ∧ PosOk q.body)) (s := 0) (s' := ()) ⟨fun _ => rfl, fun p h => by omega, fun j p h => by omega, fun i j p q => ⟨fun h h' => by omega, fun h => by omega⟩⟩ (by
    rintro k s _ hk ⟨i1, i2, i3, i5⟩
    have i4 := fun i j p q => (i5 i j p q).1
    have i6 := fun j q => (i5 0 j q q).2
    have hpk : t.list_[k]? = some t.list_[k] := List.getElem?_eq_getElem hk
    have hpm := List.getElem_mem hk
    have hpl := hp _ hpm
    rw [idx_lt _ _ hk, Option.bind_some, Option.bind_some]
    generalize t.list_[k] = p at hpk hpm hpl
    obtain ⟨a, b1, b2, b3⟩ := bsearch_val (l := x.ids) (by have := hx.len; omega) hx.rise p.id_
    rw [b1, Option.bind_some]
    by_cases hin : p.id_ ∈ x.ids
    rotate_left
    · rw [b3 hin]
      simp [hin, Lp.andThen]
    obtain ⟨c1, c2⟩ := b2 hin
    rw [c2, Option.bind_some]
    have hpr := hx.range _ hin
    have hal : a < x.ids.length := (List.getElem?_eq_some_iff.1 c1).1
    simp only [hin, decide_true, Bool.not_true, Bool.false_eq_true, if_false, show ¬ ((a : Int) < 0) by omega, decide_false]
    -- the order
    have hord : (if (decide ((0 : Int) < (k : Int))) = true then (Option.bind (idx t.list_ (w64 ((k : Int) - 1))) fun x255 => some (decide (p.id_ ≤ x255.id_))) else (some false)) = some (decide (p.id_ ≤ s)) := by
      by_cases h0 : 0 < k
      · have e : w64 ((k : Int) - 1) = ((k - 1 : Nat) : Int) := by rw [w64_id (by omega) (by omega)]; omega
        have hk1 : t.list_[k - 1]? = some (t.list_[k - 1]'(by omega)) := List.getElem?_eq_getElem (by omega)
        rw [if_pos (by simpa using h0), e, idx_nat, hk1, Option.bind_some, i2 _ h0 hk1]
      · rw [if_neg (by simpa using h0), i1 (by omega)]
        congr 1
        rw [eq_comm, decide_eq_false_iff_not]
        omega
    rw [hord, Option.bind_some]
    by_cases hle : p.id_ ≤ s
    · simp [hle, Lp.andThen]
    simp only [hle, decide_false, Bool.false_eq_true, if_false]
    by_cases hem : (w64 ((p.title.length : Int) + (p.body.length : Int)) == 0) = true
    · simp [hem, Lp.andThen]
    rw [if_neg hem, if_neg hem]
    have hsl : a < x.sizes.length := by have := hx.sizes; omega
    rw [idx_lt _ _ hsl, Option.bind_some]
    have hsz := hx.size _ (List.getElem_mem hsl)
    generalize x.sizes[a] = z at hsz
    obtain ⟨u, u1, u2, u3⟩ := positions_eq p.title (by omega) z hsz.1 hsz.2
    obtain ⟨v, v1, v2, v3⟩ := positions_eq p.body (by omega) z hsz.1 hsz.2
    have hin2 : rangeB (R := Int) (fun k295 (_ : Unit) => Option.bind (idx ([p.title, p.body] : List (List Int)) (k295 : Int)) fun x310 => Option.bind (some z) fun x321 => Option.bind (portref2_positionsFault x310 x321) fun x325 => if (x325 != 0) = true then some (.rt x325) else some (.nx ())) (([p.title, p.body] : List (List Int)).length) 0 () = some (if (if u ≠ 0 then u else v) = 0 then .fin () else .rt (if u ≠ 0 then u else v)) := by
      by_cases hu : u = 0 <;> by_cases hv : v = 0 <;> simp [rangeB, idx, u2, v2, hu, hv]
    rw [u1, v1, Option.bind_some, Option.bind_some, or_er, Option.bind_some, hin2, Option.bind_some]
    by_cases hz : (if u ≠ 0 then u else v) = 0
    · have hu0 : u = 0 := by split at hz <;> omega
      have hv0 : v = 0 := by rw [if_neg (by omega)] at hz; exact hz
      rw [hz]
      refine Or.inr ⟨p.id_, (), by simp, by simp [Lp.andThen], fun h => by omega, fun q _ hq => by rw [show k + 1 - 1 = k by omega, hpk] at hq; cases hq; rfl, fun j q hj hq => ?_, fun i j p' q => ⟨fun hij hj hp' hq => ?_, fun hj hq => ?_⟩⟩
      · rcases Nat.lt_or_eq_of_le (Nat.le_of_lt_succ hj) with h | rfl
        · exact i3 j q h hq
        · rw [hpk] at hq; cases hq; exact hin
      · rcases Nat.lt_or_eq_of_le (Nat.le_of_lt_succ hj) with h | rfl
        · exact i4 i j p' q hij h hp' hq
        · rw [hpk] at hq; cases hq
          have hj0 : 0 < j := by omega
          have hk1 : t.list_[j - 1]? = some (t.list_[j - 1]'(by omega)) := List.getElem?_eq_getElem (by omega)
          have hs := i2 _ hj0 hk1
          rcases Nat.lt_or_eq_of_le (Nat.le_sub_one_of_lt hij) with h | rfl
          · have := i4 i (j - 1) p' _ h (by omega) hp' hk1
            omega
          · rw [hk1] at hp'; cases hp'; omega
      · rcases Nat.lt_or_eq_of_le (Nat.le_of_lt_succ hj) with h | rfl
        · exact i6 j q h hq
        · rw [hpk] at hq; cases hq; exact ⟨u3 hu0, v3 hv0⟩
    · refine Or.inl ⟨_, ?_, ?_, hz⟩
      · rw [if_pos (by simpa using hz)]
      · rw [if_neg hz]
        rfl) with ⟨r, a1, a2, h⟩ | ⟨s, _, a1, a2, i1, i2, i3, i5⟩
  · rw [a1, a2]
    exact ⟨r, rfl, fun h0 => absurd h0 h, by rw [if_neg h]⟩
  · rw [a1, a2]
    refine ⟨0, rfl, fun _ => ⟨hne, fun p hp' => ?_, fun i j p q hij hp' hq => (i5 i j p q).1 hij (List.getElem?_eq_some_iff.1 hq).1 hp' hq, fun p hp' => ?_⟩, rfl⟩
    · obtain ⟨j, hj⟩ := List.mem_iff_getElem?.1 hp'
      exact i3 j p (List.getElem?_eq_some_iff.1 hj).1 hj
    · obtain ⟨j, hj⟩ := List.mem_iff_getElem?.1 hp'
      exact (i5 0 j p p).2 (List.getElem?_eq_some_iff.1 hj).1 hj
end Go.Proofs.YtkjlbaacbkdnfaaGreatDoor.M
