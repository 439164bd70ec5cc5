import Derived.Test.YtjdjmddclfhpeaaGreatDoorTopFoundKxA
import Derived.Test.YtjdjmddclfhpeaaGreatDoorTopFoundM
import Derived.Test.YtjdjmddclfhpeaaGreatDoorPl
import Derived.Lib.Join
namespace Go.Proofs.YtjdjmddclfhpeaaGreatDoor.M
open Go Go.Pu
set_option linter.unusedSimpArgs false
set_option linter.unusedVariables false
def rising (l : List Int) : Prop := ∀ (i j : Nat) (a b : Int), i < j → l[i]? = some a → l[j]? = some b → a < b
theorem bsearch_val {l : List Int} (hl : l.length ≤ 2000000000000000000) (hs : rising l) (v : Int) : ∃ a : Nat, slices_BinarySearch_Lint_int l v = some ((a : Int), decide (v ∈ l)) ∧ (v ∈ l → l[a]? = some v ∧ slices_Index_Lint_int l v = some (a : Int)) ∧ (v ∉ l → slices_Index_Lint_int l v = some (-1)) := by
 unfold slices_BinarySearch_Lint_int
 obtain ⟨a, ha, e, hlo, hhi⟩ := search_loop (R := Int × Bool) (l := l) hl (fun x => some (decide (x < v))) (fun x => decide (x < v)) (fun _ _ => rfl) (fun p q x y hpq hx hy h => by
  have := hs p q x y hpq hx hy
  simp at h ⊢
  omega) (fun s10 => if (decide (s10.1 < s10.2)) = true then Option.bind (Option.bind (shr .u64 (IntKind.wrap .u64 (w64 (s10.1 + s10.2))) 1) fun x26 => Option.bind (idx l (IntKind.wrap .i64 x26)) fun x27 => Option.bind (if (cmp_Less_int x27 v) = true then some (w64 ((IntKind.wrap .i64 x26) + 1), s10.2) else some (s10.1, IntKind.wrap .i64 x26)) fun s32 => some (s32.1, s32.2)) fun s21 => some (.nx (s21.1, s21.2)) else some (.bk (s10.1, s10.2))) (fun s => by
  split
  ·cases shr .u64 (IntKind.wrap .u64 (w64 (s.1 + s.2))) 1 with
   | none => rfl
   | some u =>
    simp only [Option.bind_some]
    cases idx l (IntKind.wrap .i64 u) with
    | none => rfl
    | some x =>
     simp only [Option.bind_some, cmp_Less_int, cmp_isNaN_int, bne_self_eq_false, Bool.false_and, Bool.false_or]
     split <;> rfl
  ·rfl)
 have hidx : ∀ a : Nat, l[a]? = some v → slices_Index_Lint_int l v = some (a : Int) := fun a hv => by
  unfold slices_Index_Lint_int
  obtain ⟨o, ho, hq⟩ := rangeB_spec (R := Int) (body := fun k6 (_ : Unit) => Option.bind (idx l (k6 : Int)) fun x21 => if (v == x21) = true then some (.rt (k6 : Int)) else some (.nx ())) l.length (fun k _ => k ≤ a) (fun o => o = .rt (a : Int)) (s := ()) (Nat.zero_le _) (by
   intro k _ hk hI
   rw [idx_lt l k hk, Option.bind_some]
   by_cases hx : v = l[k]
   ·rw [if_pos (by simpa using hx)]
    refine ⟨_, rfl, ?_⟩
    rcases Nat.lt_or_eq_of_le hI with h | rfl
    ·have := hs k a l[k] v h (List.getElem?_eq_getElem hk) hv
     omega
    ·rfl
   ·rw [if_neg (by simpa using hx)]
    refine ⟨_, rfl, ?_⟩
    rcases Nat.lt_or_eq_of_le hI with h | rfl
    ·exact h
    ·rw [List.getElem?_eq_getElem hk] at hv; cases hv; exact absurd rfl hx) (fun _ h => by
   have := (List.getElem?_eq_some_iff.1 hv).1
   exact absurd h (by omega))
  rw [ho, hq]
  rfl
 have hno : v ∉ l → slices_Index_Lint_int l v = some (-1) := fun hv => by
  unfold slices_Index_Lint_int
  obtain ⟨t, ho, _⟩ := rangeB_inv (R := Int) (b := fun k6 (_ : Unit) => Option.bind (idx l (k6 : Int)) fun x21 => if (v == x21) = true then some (.rt (k6 : Int)) else some (.nx ())) l.length (fun _ _ => True) (s := ()) trivial (by
   intro k _ hk _
   rw [idx_lt l k hk, Option.bind_some, if_neg (by
    rw [beq_iff_eq]
    intro h
    exact hv (h ▸ List.getElem_mem hk))]
   exact ⟨_, rfl, trivial⟩)
  rw [ho]
  rfl
 have hat : l[a]? = some v ↔ v ∈ l := ⟨fun h => List.mem_of_getElem? h, fun h => by
  obtain ⟨j, hj⟩ := List.mem_iff_getElem?.1 h
  rcases Nat.lt_trichotomy j a with h1 | h1 | h1
  ·have := hlo j v h1 hj; simp at this
  ·rw [← h1]; exact hj
  ·have hal : a < l.length := by have := (List.getElem?_eq_some_iff.1 hj).1; omega
   have h2 := hhi a l[a] (Nat.le_refl _) (List.getElem?_eq_getElem hal)
   have h3 := hs a j l[a] v h1 (List.getElem?_eq_getElem hal) hj
   simp at h2
   omega⟩
 refine ⟨a, ?_, fun hv => ⟨hat.2 hv, hidx a (hat.2 hv)⟩, hno⟩
 rw [e, Option.bind_some, Lp.andThen_fin]
 by_cases hal : (a : Int) < (l.length : Int)
 ·have hx : l[a]? = some l[a] := List.getElem?_eq_getElem (by omega)
  rw [if_pos (by simpa using hal)]
  generalize l[a] = x at hx
  simp only [idx_nat, hx, Option.bind_some, slices_isNaN_int, bne_self_eq_false, Bool.false_and]
  by_cases hxv : x = v
  ·subst hxv
   rw [if_pos (by simp)]
   have : x ∈ l := List.mem_of_getElem? hx
   simp [this]
  ·rw [if_neg (by simpa using hxv)]
   have : v ∉ l := fun h => by rw [hat.2 h] at hx; cases hx; exact hxv rfl
   simp [this]
 ·rw [if_neg (by simpa using hal)]
  have : v ∉ l := fun h => by have := (List.getElem?_eq_some_iff.1 (hat.2 h)).1; omega
  simp [this]
theorem or_er (a b : Int) : cmp_Or_api_Errno [a, b] = some (if a ≠ 0 then a else b) := by
 by_cases ha : a = 0 <;> by_cases hb : b = 0 <;> simp [cmp_Or_api_Errno, rangeB, idx, ha, hb, Lp.andThen]
def PosOk (l : List Int) : Prop := rising l ∧ ∀ v ∈ l, 0 ≤ v ∧ v < 20000
theorem positions_eq (l : List Int) (hl : l.length ≤ 2000000000000000000) (size : Int) (h0 : 0 ≤ size) (h1 : size ≤ 20000) : ∃ c, know_checkPositions l size = some c ∧ portref2_positionsFault l size = some c ∧ (c = 0 → PosOk l) := by
 unfold know_checkPositions portref2_positionsFault
 rcases rangeB_sim (R := Int) (b := fun k6 (_ : Unit) => Option.bind (idx l (k6 : Int)) fun x21 => if (!(know_within x21 0 (w64 (size - 1)))) = true then some (.rt 2) else some (.nx ())) (b' := fun k6 (_ : Unit) => Option.bind (idx l (k6 : Int)) fun x21 => if ((decide (x21 < 0)) || (decide (size ≤ x21))) = true then some (.rt 2) else some (.nx ())) l.length (fun r => r = 2) (fun k _ _ => ∀ (j : Nat) (v : Int), j < k → l[j]? = some v → 0 ≤ v ∧ v < 20000) (s := ()) (s' := ()) (fun j v h => by omega) (by
  rintro k _ _ hk hI
  have hvk : l[k]? = some l[k] := List.getElem?_eq_getElem hk
  rw [idx_lt l k hk, Option.bind_some, Option.bind_some]
  generalize l[k] = v at hvk
  have e : (!(know_within v 0 (w64 (size - 1)))) = ((decide (v < 0)) || (decide (size ≤ v))) := by
   rw [w64_id (by omega) (by omega), Bool.eq_iff_iff]
   simp [know_within]
   omega
  rw [e]
  cases hb : ((decide (v < 0)) || (decide (size ≤ v)))
  ·refine Or.inr ⟨_, _, rfl, rfl, fun j u hj hu => ?_⟩
   rcases Nat.lt_or_eq_of_le (Nat.le_of_lt_succ hj) with h | rfl
   ·exact hI j u h hu
   ·rw [hvk] at hu; cases hu
    simp at hb
    omega
  ·exact Or.inl ⟨_, rfl, rfl, rfl⟩) with ⟨r, a1, a2, rfl⟩ | ⟨_, _, a1, a2, hin⟩
 ·rw [a1, a2]
  exact ⟨2, rfl, rfl, fun h => absurd h (by decide)⟩
 ·rw [a1, a2]
  simp only [Option.bind_some, Lp.andThen_fin]
  obtain ⟨o, ho, hq⟩ := rangeB_spec (R := Int) (body := fun k32 (_ : Unit) => Option.bind (idx l (k32 : Int)) fun x47 => Option.bind (if (decide ((0 : Int) < (k32 : Int))) = true then (Option.bind (idx l (w64 ((k32 : Int) - 1))) fun x53 => some (decide (x47 ≤ x53))) else (some false)) fun s52 => if s52 = true then some (.rt 5) else some (.nx ())) l.length (fun k _ => ∀ (i j : Nat) (a b : Int), i < j → j < k → l[i]? = some a → l[j]? = some b → a < b) (fun o => o = .rt 5 ∨ (o = .fin () ∧ rising l)) (s := ()) (fun i j a b h h' => by omega) (by
   intro k _ hk hI
   have hvk : l[k]? = some l[k] := List.getElem?_eq_getElem hk
   rw [idx_lt l k hk, Option.bind_some]
   generalize l[k] = v at hvk
   have hw : ∃ b, (if (decide ((0 : Int) < (k : Int))) = true then (Option.bind (idx l (w64 ((k : Int) - 1))) fun x53 => some (decide (v ≤ x53))) else (some false)) = some b ∧ (b = false → ∀ a, 0 < k → l[k - 1]? = some a → a < v) := by
    by_cases h0 : 0 < k
    ·have e : w64 ((k : Int) - 1) = ((k - 1 : Nat) : Int) := by rw [w64_id (by omega) (by omega)]; omega
     have hk1 : l[k - 1]? = some (l[k - 1]'(by omega)) := List.getElem?_eq_getElem (by omega)
     rw [if_pos (by simpa using h0), e, idx_nat, hk1, Option.bind_some]
     refine ⟨_, rfl, fun hb a _ ha => ?_⟩
     cases ha
     rw [decide_eq_false_iff_not] at hb
     omega
    ·rw [if_neg (by simpa using h0)]
     exact ⟨_, rfl, fun _ a h => absurd h h0⟩
   obtain ⟨b, hb, hbo⟩ := hw
   rw [hb]
   cases b
   ·refine ⟨_, rfl, fun i j a c hij hj ha hc => ?_⟩
    rcases Nat.lt_or_eq_of_le (Nat.le_of_lt_succ hj) with h | rfl
    ·exact hI i j a c hij h ha hc
    ·rw [hvk] at hc; cases hc
     have hk1 : l[j - 1]? = some (l[j - 1]'(by omega)) := List.getElem?_eq_getElem (by omega)
     have h1 := hbo rfl _ (by omega) hk1
     rcases Nat.lt_or_eq_of_le (Nat.le_sub_one_of_lt hij) with h | rfl
     ·have := hI i (j - 1) a _ h (by omega) ha hk1
      omega
     ·rw [hk1] at ha; cases ha; exact h1
   ·exact ⟨_, rfl, Or.inl rfl⟩) (fun _ hI => Or.inr ⟨rfl, fun i j a b hij ha hb => hI i j a b hij (List.getElem?_eq_some_iff.1 hb).1 ha hb⟩)
  rw [ho]
  simp only [Option.bind_some]
  rcases hq with rfl | ⟨rfl, hr⟩
  ·exact ⟨5, rfl, rfl, fun h => absurd h (by decide)⟩
  ·refine ⟨0, rfl, rfl, fun _ => ⟨hr, fun v hv => ?_⟩⟩
   obtain ⟨j, hj⟩ := List.mem_iff_getElem?.1 hv
   exact hin j v (List.getElem?_eq_some_iff.1 hj).1 hj
structure TermOk (x : know_Index) (t : know_Term) : Prop where
 ne : t.list_ ≠ []
 ids : ∀ p ∈ t.list_, p.id_ ∈ x.ids
 rise : ∀ (i j : Nat) (p q : know_Posting), i < j → t.list_[i]? = some p → t.list_[j]? = some q → p.id_ < q.id_
 pos : ∀ p ∈ t.list_, PosOk p.title ∧ PosOk p.body
structure IdsOk (x : know_Index) : Prop where
 len : x.ids.length ≤ 200
 sizes : x.sizes.length = x.ids.length
 rise : rising x.ids
 range : ∀ v ∈ x.ids, 1 ≤ v ∧ v ≤ 3000000
 size : ∀ v ∈ x.sizes, 0 ≤ v ∧ v ≤ 20000
structure IndexOk (x : know_Index) : Prop extends IdsOk x where
 terms : ∀ t ∈ x.terms, TermOk x t
 words : ∀ (i j : Nat) (t u : know_Term), i < j → x.terms[i]? = some t → x.terms[j]? = some u → cmpS t.word u.word < 0
structure Small (x : know_Index) : Prop where
 terms : x.terms.length ≤ 100000000
 word : ∀ t ∈ x.terms, t.word.size ≤ 1048576
 list : ∀ t ∈ x.terms, t.list_.length ≤ 1048576
 posts : ∀ t ∈ x.terms, ∀ p ∈ t.list_, p.title.length ≤ 1048576 ∧ p.body.length ≤ 1048576
theorem term_eq {x : know_Index} (hx : IdsOk x) (t : know_Term) (hne : t.list_ ≠ []) (hl : t.list_.length ≤ 1048576) (hp : ∀ p ∈ t.list_, p.title.length ≤ 1048576 ∧ p.body.length ≤ 1048576) :
  ∃ c, know_Index_checkTerm x t = some c ∧ (c = 0 → TermOk x t) ∧
   rangeB (R := Int) (fun k191 (_ : Unit) => Option.bind (α := Lp _ _) (Option.bind (idx t.list_ (k191 : Int)) fun x218 => Option.bind (slices_Index_Lint_int x.ids x218.id_) fun x246 => if (decide (x246 < 0)) = true then some (.rt 7) else Option.bind (if (decide ((0 : Int) < (k191 : Int))) = true then (Option.bind (idx t.list_ (w64 ((k191 : Int) - 1))) fun x255 => some (decide (x218.id_ ≤ x255.id_))) else (some false)) fun s249 => if s249 = true then some (.rt 5) else if ((w64 ((x218.title.length : Int) + (x218.body.length : Int))) == 0) = true then some (.rt 1) else Option.bind (rangeB (fun k295 _ => Option.bind (idx ([x218.title, x218.body] : List (List Int)) (k295 : Int)) fun x310 => Option.bind (idx x.sizes x246) fun x321 => Option.bind (portref2_positionsFault x310 x321) fun x325 => if (x325 != 0) = true then some (.rt x325) else some (.nx ())) (([x218.title, x218.body] : List (List Int)).length) 0 ()) fun o292 => o292.andThen (fun y => some (.rt y)) fun s293 => some (.fin ())) fun o210 => o210.andThen (fun y => some (.rt y)) fun s211 => some (.nx ())) t.list_.length 0 () = some (if c = 0 then .fin () else .rt c) := by
 unfold know_Index_checkTerm
 rcases rangeB_sim (R := Int) (b := fun k29 s35 => Option.bind (idx t.list_ (k29 : Int)) fun x48 => Option.bind (slices_BinarySearch_Lint_int x.ids x48.id_) fun x76 => if (!x76.2) = true then some (.rt 7) else if (decide (x48.id_ ≤ s35)) = true then some (.rt 5) else if ((w64 ((x48.title.length : Int) + (x48.body.length : Int))) == 0) = true then some (.rt 1) else Option.bind (idx x.sizes x76.1) fun x98 => Option.bind (know_checkPositions x48.title x98) fun x102 => Option.bind (know_checkPositions x48.body x98) fun x114 => Option.bind (cmp_Or_api_Errno ([x102, x114] : List Int)) fun x123 => if (x123 != 0) = true then some (.rt x123) else some (.nx x48.id_))
  (b' := fun k191 (_ : Unit) => Option.bind (α := Lp _ _) (Option.bind (idx t.list_ (k191 : Int)) fun x218 => Option.bind (slices_Index_Lint_int x.ids x218.id_) fun x246 => if (decide (x246 < 0)) = true then some (.rt 7) else Option.bind (if (decide ((0 : Int) < (k191 : Int))) = true then (Option.bind (idx t.list_ (w64 ((k191 : Int) - 1))) fun x255 => some (decide (x218.id_ ≤ x255.id_))) else (some false)) fun s249 => if s249 = true then some (.rt 5) else if ((w64 ((x218.title.length : Int) + (x218.body.length : Int))) == 0) = true then some (.rt 1) else Option.bind (rangeB (fun k295 _ => Option.bind (idx ([x218.title, x218.body] : List (List Int)) (k295 : Int)) fun x310 => Option.bind (idx x.sizes x246) fun x321 => Option.bind (portref2_positionsFault x310 x321) fun x325 => if (x325 != 0) = true then some (.rt x325) else some (.nx ())) (([x218.title, x218.body] : List (List Int)).length) 0 ()) fun o292 => o292.andThen (fun y => some (.rt y)) fun s293 => some (.fin ())) fun o210 => o210.andThen (fun y => some (.rt y)) fun s211 => some (.nx ()))
  t.list_.length (fun r => r ≠ 0) (fun k s _ => (k = 0 → s = 0) ∧ (∀ p, 0 < k → t.list_[k - 1]? = some p → s = p.id_) ∧ (∀ j p, j < k → t.list_[j]? = some p → p.id_ ∈ x.ids) ∧ ∀ (i j : Nat) (p q : know_Posting), (i < j → j < k → t.list_[i]? = some p → t.list_[j]? = some q → p.id_ < q.id_) ∧ (j < k → t.list_[j]? = some q → PosOk q.title ∧ PosOk q.body)) (s := 0) (s' := ()) ⟨fun _ => rfl, fun p h => by omega, fun j p h => by omega, fun i j p q => ⟨fun h h' => by omega, fun h => by omega⟩⟩ (by
  rintro k s _ hk ⟨i1, i2, i3, i5⟩
  have i4 := fun i j p q => (i5 i j p q).1
  have i6 := fun j q => (i5 0 j q q).2
  have hpk : t.list_[k]? = some t.list_[k] := List.getElem?_eq_getElem hk
  have hpm := List.getElem_mem hk
  have hpl := hp _ hpm
  rw [idx_lt _ _ hk, Option.bind_some, Option.bind_some]
  generalize t.list_[k] = p at hpk hpm hpl
  obtain ⟨a, b1, b2, b3⟩ := bsearch_val (l := x.ids) (by have := hx.len; omega) hx.rise p.id_
  rw [b1, Option.bind_some]
  by_cases hin : p.id_ ∈ x.ids
  rotate_left
  ·rw [b3 hin]
   simp [hin, Lp.andThen]
  obtain ⟨c1, c2⟩ := b2 hin
  rw [c2, Option.bind_some]
  have hpr := hx.range _ hin
  have hal : a < x.ids.length := (List.getElem?_eq_some_iff.1 c1).1
  simp only [hin, decide_true, Bool.not_true, Bool.false_eq_true, if_false, show ¬ ((a : Int) < 0) by omega, decide_false]
  have hord : (if (decide ((0 : Int) < (k : Int))) = true then (Option.bind (idx t.list_ (w64 ((k : Int) - 1))) fun x255 => some (decide (p.id_ ≤ x255.id_))) else (some false)) = some (decide (p.id_ ≤ s)) := by
   by_cases h0 : 0 < k
   ·have e : w64 ((k : Int) - 1) = ((k - 1 : Nat) : Int) := by rw [w64_id (by omega) (by omega)]; omega
    have hk1 : t.list_[k - 1]? = some (t.list_[k - 1]'(by omega)) := List.getElem?_eq_getElem (by omega)
    rw [if_pos (by simpa using h0), e, idx_nat, hk1, Option.bind_some, i2 _ h0 hk1]
   ·rw [if_neg (by simpa using h0), i1 (by omega)]
    congr 1
    rw [eq_comm, decide_eq_false_iff_not]
    omega
  rw [hord, Option.bind_some]
  by_cases hle : p.id_ ≤ s
  ·simp [hle, Lp.andThen]
  simp only [hle, decide_false, Bool.false_eq_true, if_false]
  by_cases hem : (w64 ((p.title.length : Int) + (p.body.length : Int)) == 0) = true
  ·simp [hem, Lp.andThen]
  rw [if_neg hem, if_neg hem]
  have hsl : a < x.sizes.length := by have := hx.sizes; omega
  rw [idx_lt _ _ hsl, Option.bind_some]
  have hsz := hx.size _ (List.getElem_mem hsl)
  generalize x.sizes[a] = z at hsz
  obtain ⟨u, u1, u2, u3⟩ := positions_eq p.title (by omega) z hsz.1 hsz.2
  obtain ⟨v, v1, v2, v3⟩ := positions_eq p.body (by omega) z hsz.1 hsz.2
  have hin2 : rangeB (R := Int) (fun k295 (_ : Unit) => Option.bind (idx ([p.title, p.body] : List (List Int)) (k295 : Int)) fun x310 => Option.bind (some z) fun x321 => Option.bind (portref2_positionsFault x310 x321) fun x325 => if (x325 != 0) = true then some (.rt x325) else some (.nx ())) (([p.title, p.body] : List (List Int)).length) 0 () = some (if (if u ≠ 0 then u else v) = 0 then .fin () else .rt (if u ≠ 0 then u else v)) := by
   by_cases hu : u = 0 <;> by_cases hv : v = 0 <;> simp [rangeB, idx, u2, v2, hu, hv]
  rw [u1, v1, Option.bind_some, Option.bind_some, or_er, Option.bind_some, hin2, Option.bind_some]
  by_cases hz : (if u ≠ 0 then u else v) = 0
  ·have hu0 : u = 0 := by split at hz <;> omega
   have hv0 : v = 0 := by rw [if_neg (by omega)] at hz; exact hz
   rw [hz]
   refine Or.inr ⟨p.id_, (), by simp, by simp [Lp.andThen], fun h => by omega, fun q _ hq => by rw [show k + 1 - 1 = k by omega, hpk] at hq; cases hq; rfl, fun j q hj hq => ?_, fun i j p' q => ⟨fun hij hj hp' hq => ?_, fun hj hq => ?_⟩⟩
   ·rcases Nat.lt_or_eq_of_le (Nat.le_of_lt_succ hj) with h | rfl
    ·exact i3 j q h hq
    ·rw [hpk] at hq; cases hq; exact hin
   ·rcases Nat.lt_or_eq_of_le (Nat.le_of_lt_succ hj) with h | rfl
    ·exact i4 i j p' q hij h hp' hq
    ·rw [hpk] at hq; cases hq
     have hj0 : 0 < j := by omega
     have hk1 : t.list_[j - 1]? = some (t.list_[j - 1]'(by omega)) := List.getElem?_eq_getElem (by omega)
     have hs := i2 _ hj0 hk1
     rcases Nat.lt_or_eq_of_le (Nat.le_sub_one_of_lt hij) with h | rfl
     ·have := i4 i (j - 1) p' _ h (by omega) hp' hk1
      omega
     ·rw [hk1] at hp'; cases hp'; omega
   ·rcases Nat.lt_or_eq_of_le (Nat.le_of_lt_succ hj) with h | rfl
    ·exact i6 j q h hq
    ·rw [hpk] at hq; cases hq; exact ⟨u3 hu0, v3 hv0⟩
  ·refine Or.inl ⟨_, ?_, ?_, hz⟩
   ·rw [if_pos (by simpa using hz)]
   ·rw [if_neg hz]
    rfl) with ⟨r, a1, a2, h⟩ | ⟨s, _, a1, a2, i1, i2, i3, i5⟩
 ·rw [a1, a2]
  exact ⟨r, rfl, fun h0 => absurd h0 h, by rw [if_neg h]⟩
 ·rw [a1, a2]
  refine ⟨0, rfl, fun _ => ⟨hne, fun p hp' => ?_, fun i j p q hij hp' hq => (i5 i j p q).1 hij (List.getElem?_eq_some_iff.1 hq).1 hp' hq, fun p hp' => ?_⟩, rfl⟩
  ·obtain ⟨j, hj⟩ := List.mem_iff_getElem?.1 hp'
   exact i3 j p (List.getElem?_eq_some_iff.1 hj).1 hj
  ·obtain ⟨j, hj⟩ := List.mem_iff_getElem?.1 hp'
   exact (i5 0 j p p).2 (List.getElem?_eq_some_iff.1 hj).1 hj
end Go.Proofs.YtjdjmddclfhpeaaGreatDoor.M
namespace Go.Proofs.YtjdjmddclfhpeaaGreatDoor.M
open Go Go.Pu
set_option linter.unusedSimpArgs false
set_option linter.unusedVariables false
theorem ids_eq (x : know_Index) (hlen : x.ids.length ≤ 200) (hsz : x.sizes.length = x.ids.length) :
  (∃ r, rangeB (R := Int) (fun k35 (_ : Unit) => Option.bind (idx x.ids (k35 : Int)) fun x50 => if (!(know_within x50 1 3000000)) = true then some (.rt 2) else Option.bind (if (decide ((0 : Int) < (k35 : Int))) = true then (Option.bind (idx x.ids (w64 ((k35 : Int) - 1))) fun x61 => some (decide (x50 ≤ x61))) else (some false)) fun s56 => if s56 = true then some (.rt 5) else Option.bind (idx x.sizes (k35 : Int)) fun x70 => if (!(know_within x70 0 20000)) = true then some (.rt 2) else some (.nx ())) x.ids.length 0 () = some (.rt r) ∧ rangeB (R := Int) (fun k35 (_ : Unit) => Option.bind (idx x.ids (k35 : Int)) fun x50 => if ((decide (x50 < 1)) || (decide ((3000000 : Int) < x50))) = true then some (.rt 2) else Option.bind (if (decide ((0 : Int) < (k35 : Int))) = true then (Option.bind (idx x.ids (w64 ((k35 : Int) - 1))) fun x63 => some (decide (x50 ≤ x63))) else (some false)) fun s58 => if s58 = true then some (.rt 5) else Option.bind (idx x.sizes (k35 : Int)) fun x72 => Option.bind (if (decide (x72 < 0)) = true then (some true) else (some (decide ((20000 : Int) < x72)))) fun s77 => if s77 = true then some (.rt 2) else some (.nx ())) x.ids.length 0 () = some (.rt r) ∧ r ≠ 0) ∨
  (rangeB (R := Int) (fun k35 (_ : Unit) => Option.bind (idx x.ids (k35 : Int)) fun x50 => if (!(know_within x50 1 3000000)) = true then some (.rt 2) else Option.bind (if (decide ((0 : Int) < (k35 : Int))) = true then (Option.bind (idx x.ids (w64 ((k35 : Int) - 1))) fun x61 => some (decide (x50 ≤ x61))) else (some false)) fun s56 => if s56 = true then some (.rt 5) else Option.bind (idx x.sizes (k35 : Int)) fun x70 => if (!(know_within x70 0 20000)) = true then some (.rt 2) else some (.nx ())) x.ids.length 0 () = some (.fin ()) ∧ rangeB (R := Int) (fun k35 (_ : Unit) => Option.bind (idx x.ids (k35 : Int)) fun x50 => if ((decide (x50 < 1)) || (decide ((3000000 : Int) < x50))) = true then some (.rt 2) else Option.bind (if (decide ((0 : Int) < (k35 : Int))) = true then (Option.bind (idx x.ids (w64 ((k35 : Int) - 1))) fun x63 => some (decide (x50 ≤ x63))) else (some false)) fun s58 => if s58 = true then some (.rt 5) else Option.bind (idx x.sizes (k35 : Int)) fun x72 => Option.bind (if (decide (x72 < 0)) = true then (some true) else (some (decide ((20000 : Int) < x72)))) fun s77 => if s77 = true then some (.rt 2) else some (.nx ())) x.ids.length 0 () = some (.fin ()) ∧ IdsOk x) := by
 rcases rangeB_sim (R := Int) (b := fun k35 (_ : Unit) => Option.bind (idx x.ids (k35 : Int)) fun x50 => if (!(know_within x50 1 3000000)) = true then some (.rt 2) else Option.bind (if (decide ((0 : Int) < (k35 : Int))) = true then (Option.bind (idx x.ids (w64 ((k35 : Int) - 1))) fun x61 => some (decide (x50 ≤ x61))) else (some false)) fun s56 => if s56 = true then some (.rt 5) else Option.bind (idx x.sizes (k35 : Int)) fun x70 => if (!(know_within x70 0 20000)) = true then some (.rt 2) else some (.nx ())) (b' := fun k35 (_ : Unit) => Option.bind (idx x.ids (k35 : Int)) fun x50 => if ((decide (x50 < 1)) || (decide ((3000000 : Int) < x50))) = true then some (.rt 2) else Option.bind (if (decide ((0 : Int) < (k35 : Int))) = true then (Option.bind (idx x.ids (w64 ((k35 : Int) - 1))) fun x63 => some (decide (x50 ≤ x63))) else (some false)) fun s58 => if s58 = true then some (.rt 5) else Option.bind (idx x.sizes (k35 : Int)) fun x72 => Option.bind (if (decide (x72 < 0)) = true then (some true) else (some (decide ((20000 : Int) < x72)))) fun s77 => if s77 = true then some (.rt 2) else some (.nx ())) x.ids.length (fun r => r ≠ 0) (fun k _ _ => (∀ (j : Nat) (a : Int), j < k → x.ids[j]? = some a → 1 ≤ a ∧ a ≤ 3000000) ∧ (∀ (j : Nat) (a : Int), j < k → x.sizes[j]? = some a → 0 ≤ a ∧ a ≤ 20000) ∧ ∀ (i j : Nat) (a b : Int), i < j → j < k → x.ids[i]? = some a → x.ids[j]? = some b → a < b) (s := ()) (s' := ()) ⟨fun j a h => by omega, fun j a h => by omega, fun i j a b h h' => by omega⟩ (by
  rintro k _ _ hk ⟨i1, i2, i3⟩
  simp only [idx_lt _ _ hk, idx_lt x.sizes k (by omega), Option.bind_some]
  have hvk : x.ids[k]? = some x.ids[k] := List.getElem?_eq_getElem hk
  have hzk : x.sizes[k]? = some (x.sizes[k]'(by omega)) := List.getElem?_eq_getElem (by omega)
  generalize x.ids[k] = v at hvk
  generalize x.sizes[k]'(by omega) = z at hzk
  have e1 : (!(know_within v 1 3000000)) = ((decide (v < 1)) || (decide ((3000000 : Int) < v))) := by
   rw [Bool.eq_iff_iff]; simp [know_within] <;> omega
  rw [e1]
  by_cases hv : ((decide (v < 1)) || (decide ((3000000 : Int) < v))) = true
  ·rw [if_pos hv, if_pos hv]
   exact Or.inl ⟨_, rfl, rfl, by decide⟩
  rw [if_neg hv, if_neg hv]
  have hord : ∃ b, (if (decide ((0 : Int) < (k : Int))) = true then (Option.bind (idx x.ids (w64 ((k : Int) - 1))) fun x61 => some (decide (v ≤ x61))) else (some false)) = some b ∧ (b = false → ∀ a, 0 < k → x.ids[k - 1]? = some a → a < v) := by
   by_cases h0 : 0 < k
   ·have e : w64 ((k : Int) - 1) = ((k - 1 : Nat) : Int) := by rw [w64_id (by omega) (by omega)]; omega
    have hk1 : x.ids[k - 1]? = some (x.ids[k - 1]'(by omega)) := List.getElem?_eq_getElem (by omega)
    rw [if_pos (by simpa using h0), e, idx_nat, hk1, Option.bind_some]
    refine ⟨_, rfl, fun hb a _ ha => ?_⟩
    cases ha
    rw [decide_eq_false_iff_not] at hb
    omega
   ·rw [if_neg (by simpa using h0)]
    exact ⟨_, rfl, fun _ a h => absurd h h0⟩
  obtain ⟨b, hb, hbo⟩ := hord
  rw [hb, Option.bind_some, Option.bind_some]
  cases b with
  | true => exact Or.inl ⟨_, rfl, rfl, by decide⟩
  | false =>
   simp only [Bool.false_eq_true, if_false, Option.bind_some]
   have e2 : (if (decide (z < 0)) = true then (some true) else (some (decide ((20000 : Int) < z)))) = some (!(know_within z 0 20000)) := by
    by_cases h0 : z < 0
    ·rw [if_pos (by simpa using h0)]
     have : know_within z 0 20000 = false := by simp [know_within]; omega
     rw [this]; rfl
    ·rw [if_neg (by simpa using h0)]
     congr 1
     rw [Bool.eq_iff_iff]; simp [know_within]; omega
   rw [e2, Option.bind_some]
   cases hz : (!(know_within z 0 20000)) with
   | true => exact Or.inl ⟨_, rfl, rfl, by decide⟩
   | false =>
   refine Or.inr ⟨_, _, rfl, rfl, fun j a hj ha => ?_, fun j a hj ha => ?_, fun i j a c hij hj ha hc => ?_⟩
   ·rcases Nat.lt_or_eq_of_le (Nat.le_of_lt_succ hj) with h | rfl
    ·exact i1 j a h ha
    ·rw [hvk] at ha; cases ha
     simp at hv
     omega
   ·rcases Nat.lt_or_eq_of_le (Nat.le_of_lt_succ hj) with h | rfl
    ·exact i2 j a h ha
    ·rw [hzk] at ha; cases ha
     simp [know_within] at hz
     omega
   ·rcases Nat.lt_or_eq_of_le (Nat.le_of_lt_succ hj) with h | rfl
    ·exact i3 i j a c hij h ha hc
    ·rw [hvk] at hc; cases hc
     have hk1 : x.ids[j - 1]? = some (x.ids[j - 1]'(by omega)) := List.getElem?_eq_getElem (by omega)
     have h1 := hbo rfl _ (by omega) hk1
     rcases Nat.lt_or_eq_of_le (Nat.le_sub_one_of_lt hij) with h | rfl
     ·have := i3 i (j - 1) a _ h (by omega) ha hk1
      omega
     ·rw [hk1] at ha; cases ha; exact h1) with ⟨r, a1, a2, h⟩ | ⟨_, _, a1, a2, i1, i2, i3⟩
 ·exact Or.inl ⟨r, a1, a2, h⟩
 ·refine Or.inr ⟨a1, a2, hlen, hsz, fun i j a b hij ha hb => i3 i j a b hij (List.getElem?_eq_some_iff.1 hb).1 ha hb, fun v hv => ?_, fun v hv => ?_⟩
  ·obtain ⟨j, hj⟩ := List.mem_iff_getElem?.1 hv
   exact i1 j v (List.getElem?_eq_some_iff.1 hj).1 hj
  ·obtain ⟨j, hj⟩ := List.mem_iff_getElem?.1 hv
   exact i2 j v (by have := (List.getElem?_eq_some_iff.1 hj).1; omega) hj
theorem terms_eq {x : know_Index} (hx : IdsOk x) (hs : Small x) :
  (∃ r, rangeB (R := Int) (fun k85 (_ : Unit) => Option.bind (idx x.terms (k85 : Int)) fun x104 => Option.bind (know_Words x104.word) fun x123 => Option.bind (if ((x123.length : Int) != 1) = true then (some true) else (Option.bind (idx x123 0) fun x133 => some (!(strEq x133 x104.word)))) fun s132 => if (s132 || ((x104.list_.length : Int) == 0)) = true then some (.rt 1) else Option.bind (if (decide ((0 : Int) < (k85 : Int))) = true then (Option.bind (idx x.terms (w64 ((k85 : Int) - 1))) fun x156 => some (strLt x104.word x156.word || strEq x104.word x156.word)) else (some false)) fun s150 => if s150 = true then some (.rt 5) else Option.bind (know_Index_checkTerm x x104) fun x175 => if (x175 != 0) = true then some (.rt x175) else some (.nx ())) x.terms.length 0 () = some (.rt r) ∧ rangeB (R := Int) (fun k96 (_ : Unit) => Option.bind (α := Lp _ _) (Option.bind (idx x.terms (k96 : Int)) fun x123 => Option.bind (portref2_WordsOf x123.word) fun x142 => Option.bind (if ((x142.length : Int) != 1) = true then (some true) else (Option.bind (idx x142 0) fun x152 => some (!(strEq x152 x123.word)))) fun s151 => if (s151 || ((x123.list_.length : Int) == 0)) = true then some (.rt 1) else Option.bind (if (decide ((0 : Int) < (k96 : Int))) = true then (Option.bind (idx x.terms (w64 ((k96 : Int) - 1))) fun x175 => some (strLt x123.word x175.word || strEq x123.word x175.word)) else (some false)) fun s169 => if s169 = true then some (.rt 5) else Option.bind (rangeB (fun k191 _ => Option.bind (α := Lp _ _) (Option.bind (idx x123.list_ (k191 : Int)) fun x218 => Option.bind (slices_Index_Lint_int x.ids x218.id_) fun x246 => if (decide (x246 < 0)) = true then some (.rt 7) else Option.bind (if (decide ((0 : Int) < (k191 : Int))) = true then (Option.bind (idx x123.list_ (w64 ((k191 : Int) - 1))) fun x255 => some (decide (x218.id_ ≤ x255.id_))) else (some false)) fun s249 => if s249 = true then some (.rt 5) else if ((w64 ((x218.title.length : Int) + (x218.body.length : Int))) == 0) = true then some (.rt 1) else Option.bind (rangeB (fun k295 _ => Option.bind (idx ([x218.title, x218.body] : List (List Int)) (k295 : Int)) fun x310 => Option.bind (idx x.sizes x246) fun x321 => Option.bind (portref2_positionsFault x310 x321) fun x325 => if (x325 != 0) = true then some (.rt x325) else some (.nx ())) (([x218.title, x218.body] : List (List Int)).length) 0 ()) fun o292 => o292.andThen (fun y => some (.rt y)) fun s293 => some (.fin ())) fun o210 => o210.andThen (fun y => some (.rt y)) fun s211 => some (.nx ())) x123.list_.length 0 ()) fun o188 => o188.andThen (fun y => some (.rt y)) fun s189 => some (.fin ())) fun o115 => o115.andThen (fun y => some (.rt y)) fun s116 => some (.nx ())) x.terms.length 0 () = some (.rt r) ∧ r ≠ 0) ∨
  (rangeB (R := Int) (fun k85 (_ : Unit) => Option.bind (idx x.terms (k85 : Int)) fun x104 => Option.bind (know_Words x104.word) fun x123 => Option.bind (if ((x123.length : Int) != 1) = true then (some true) else (Option.bind (idx x123 0) fun x133 => some (!(strEq x133 x104.word)))) fun s132 => if (s132 || ((x104.list_.length : Int) == 0)) = true then some (.rt 1) else Option.bind (if (decide ((0 : Int) < (k85 : Int))) = true then (Option.bind (idx x.terms (w64 ((k85 : Int) - 1))) fun x156 => some (strLt x104.word x156.word || strEq x104.word x156.word)) else (some false)) fun s150 => if s150 = true then some (.rt 5) else Option.bind (know_Index_checkTerm x x104) fun x175 => if (x175 != 0) = true then some (.rt x175) else some (.nx ())) x.terms.length 0 () = some (.fin ()) ∧ rangeB (R := Int) (fun k96 (_ : Unit) => Option.bind (α := Lp _ _) (Option.bind (idx x.terms (k96 : Int)) fun x123 => Option.bind (portref2_WordsOf x123.word) fun x142 => Option.bind (if ((x142.length : Int) != 1) = true then (some true) else (Option.bind (idx x142 0) fun x152 => some (!(strEq x152 x123.word)))) fun s151 => if (s151 || ((x123.list_.length : Int) == 0)) = true then some (.rt 1) else Option.bind (if (decide ((0 : Int) < (k96 : Int))) = true then (Option.bind (idx x.terms (w64 ((k96 : Int) - 1))) fun x175 => some (strLt x123.word x175.word || strEq x123.word x175.word)) else (some false)) fun s169 => if s169 = true then some (.rt 5) else Option.bind (rangeB (fun k191 _ => Option.bind (α := Lp _ _) (Option.bind (idx x123.list_ (k191 : Int)) fun x218 => Option.bind (slices_Index_Lint_int x.ids x218.id_) fun x246 => if (decide (x246 < 0)) = true then some (.rt 7) else Option.bind (if (decide ((0 : Int) < (k191 : Int))) = true then (Option.bind (idx x123.list_ (w64 ((k191 : Int) - 1))) fun x255 => some (decide (x218.id_ ≤ x255.id_))) else (some false)) fun s249 => if s249 = true then some (.rt 5) else if ((w64 ((x218.title.length : Int) + (x218.body.length : Int))) == 0) = true then some (.rt 1) else Option.bind (rangeB (fun k295 _ => Option.bind (idx ([x218.title, x218.body] : List (List Int)) (k295 : Int)) fun x310 => Option.bind (idx x.sizes x246) fun x321 => Option.bind (portref2_positionsFault x310 x321) fun x325 => if (x325 != 0) = true then some (.rt x325) else some (.nx ())) (([x218.title, x218.body] : List (List Int)).length) 0 ()) fun o292 => o292.andThen (fun y => some (.rt y)) fun s293 => some (.fin ())) fun o210 => o210.andThen (fun y => some (.rt y)) fun s211 => some (.nx ())) x123.list_.length 0 ()) fun o188 => o188.andThen (fun y => some (.rt y)) fun s189 => some (.fin ())) fun o115 => o115.andThen (fun y => some (.rt y)) fun s116 => some (.nx ())) x.terms.length 0 () = some (.fin ()) ∧ IndexOk x) := by
 rcases rangeB_sim (R := Int) (b := fun k85 (_ : Unit) => Option.bind (idx x.terms (k85 : Int)) fun x104 => Option.bind (know_Words x104.word) fun x123 => Option.bind (if ((x123.length : Int) != 1) = true then (some true) else (Option.bind (idx x123 0) fun x133 => some (!(strEq x133 x104.word)))) fun s132 => if (s132 || ((x104.list_.length : Int) == 0)) = true then some (.rt 1) else Option.bind (if (decide ((0 : Int) < (k85 : Int))) = true then (Option.bind (idx x.terms (w64 ((k85 : Int) - 1))) fun x156 => some (strLt x104.word x156.word || strEq x104.word x156.word)) else (some false)) fun s150 => if s150 = true then some (.rt 5) else Option.bind (know_Index_checkTerm x x104) fun x175 => if (x175 != 0) = true then some (.rt x175) else some (.nx ())) (b' := fun k96 (_ : Unit) => Option.bind (α := Lp _ _) (Option.bind (idx x.terms (k96 : Int)) fun x123 => Option.bind (portref2_WordsOf x123.word) fun x142 => Option.bind (if ((x142.length : Int) != 1) = true then (some true) else (Option.bind (idx x142 0) fun x152 => some (!(strEq x152 x123.word)))) fun s151 => if (s151 || ((x123.list_.length : Int) == 0)) = true then some (.rt 1) else Option.bind (if (decide ((0 : Int) < (k96 : Int))) = true then (Option.bind (idx x.terms (w64 ((k96 : Int) - 1))) fun x175 => some (strLt x123.word x175.word || strEq x123.word x175.word)) else (some false)) fun s169 => if s169 = true then some (.rt 5) else Option.bind (rangeB (fun k191 _ => Option.bind (α := Lp _ _) (Option.bind (idx x123.list_ (k191 : Int)) fun x218 => Option.bind (slices_Index_Lint_int x.ids x218.id_) fun x246 => if (decide (x246 < 0)) = true then some (.rt 7) else Option.bind (if (decide ((0 : Int) < (k191 : Int))) = true then (Option.bind (idx x123.list_ (w64 ((k191 : Int) - 1))) fun x255 => some (decide (x218.id_ ≤ x255.id_))) else (some false)) fun s249 => if s249 = true then some (.rt 5) else if ((w64 ((x218.title.length : Int) + (x218.body.length : Int))) == 0) = true then some (.rt 1) else Option.bind (rangeB (fun k295 _ => Option.bind (idx ([x218.title, x218.body] : List (List Int)) (k295 : Int)) fun x310 => Option.bind (idx x.sizes x246) fun x321 => Option.bind (portref2_positionsFault x310 x321) fun x325 => if (x325 != 0) = true then some (.rt x325) else some (.nx ())) (([x218.title, x218.body] : List (List Int)).length) 0 ()) fun o292 => o292.andThen (fun y => some (.rt y)) fun s293 => some (.fin ())) fun o210 => o210.andThen (fun y => some (.rt y)) fun s211 => some (.nx ())) x123.list_.length 0 ()) fun o188 => o188.andThen (fun y => some (.rt y)) fun s189 => some (.fin ())) fun o115 => o115.andThen (fun y => some (.rt y)) fun s116 => some (.nx ())) x.terms.length (fun r => r ≠ 0) (fun k _ _ => (∀ (j : Nat) (t : know_Term), j < k → x.terms[j]? = some t → TermOk x t) ∧ ∀ (i j : Nat) (t u : know_Term), i < j → j < k → x.terms[i]? = some t → x.terms[j]? = some u → cmpS t.word u.word < 0) (s := ()) (s' := ()) ⟨fun j a h => by omega, fun i j a b h h' => by omega⟩ (by
  rintro k _ _ hk ⟨i1, i3⟩
  have hm := hs.terms
  rw [idx_lt _ _ hk, Option.bind_some, Option.bind_some]
  have htk : x.terms[k]? = some x.terms[k] := List.getElem?_eq_getElem hk
  have htm := List.getElem_mem hk
  generalize x.terms[k] = t at htk htm
  have hw := hs.word t htm
  rw [know_Words_val _ (by omega), portref2_WordsOf_val _ (by omega), Option.bind_some, Option.bind_some]
  obtain ⟨b, hb⟩ : ∃ b, (if (((wordsL t.word.data.toList).length : Int) != 1) = true then (some true) else (Option.bind (idx (wordsL t.word.data.toList) 0) fun x133 => some (!(strEq x133 t.word)))) = some b := by
   by_cases h1 : (wordsL t.word.data.toList).length = 1
   ·rw [if_neg (by simp [h1])]
    have := idx_lt (wordsL t.word.data.toList) 0 (by omega)
    rw [show ((0 : Nat) : Int) = 0 from rfl] at this
    rw [this]
    exact ⟨_, rfl⟩
   ·rw [if_pos (by rw [bne_iff_ne]; omega)]
    exact ⟨_, rfl⟩
  rw [hb, Option.bind_some, Option.bind_some]
  by_cases hc : (b || ((t.list_.length : Int) == 0)) = true
  ·rw [if_pos hc, if_pos hc]
   exact Or.inl ⟨_, rfl, rfl, by decide⟩
  rw [if_neg hc, if_neg hc]
  have hne : t.list_ ≠ [] := fun h => by rw [h] at hc; simp at hc
  have hord : ∃ b, (if (decide ((0 : Int) < (k : Int))) = true then (Option.bind (idx x.terms (w64 ((k : Int) - 1))) fun x156 => some (strLt t.word x156.word || strEq t.word x156.word)) else (some false)) = some b ∧ (b = false → ∀ a, 0 < k → x.terms[k - 1]? = some a → cmpS a.word t.word < 0) := by
   by_cases h0 : 0 < k
   ·have e : w64 ((k : Int) - 1) = ((k - 1 : Nat) : Int) := by rw [w64_id (by omega) (by omega)]; omega
    have hk1 : x.terms[k - 1]? = some (x.terms[k - 1]'(by omega)) := List.getElem?_eq_getElem (by omega)
    rw [if_pos (by simpa using h0), e, idx_nat, hk1, Option.bind_some]
    refine ⟨_, rfl, fun hb a _ ha => ?_⟩
    cases ha
    rw [strLt_cmp, strEq_cmp, Bool.or_eq_false_iff, decide_eq_false_iff_not, decide_eq_false_iff_not, ← cmpS_zero] at hb
    rw [cmpS_swap]
    omega
   ·rw [if_neg (by simpa using h0)]
    exact ⟨_, rfl, fun _ a h => absurd h h0⟩
  obtain ⟨b2, hb2, hbo⟩ := hord
  rw [hb2, Option.bind_some, Option.bind_some]
  cases b2 with
  | true => exact Or.inl ⟨_, rfl, rfl, by decide⟩
  | false =>
   simp only [Bool.false_eq_true, if_false]
   obtain ⟨c, c1, c2, c3⟩ := term_eq hx t hne (hs.list t htm) (hs.posts t htm)
   rw [c1, c3, Option.bind_some, Option.bind_some]
   by_cases hc0 : c = 0
   ·subst hc0
    refine Or.inr ⟨_, _, rfl, rfl, fun j a hj ha => ?_, fun i j a d hij hj ha hd => ?_⟩
    ·rcases Nat.lt_or_eq_of_le (Nat.le_of_lt_succ hj) with h | rfl
     ·exact i1 j a h ha
     ·rw [htk] at ha; cases ha; exact c2 rfl
    ·rcases Nat.lt_or_eq_of_le (Nat.le_of_lt_succ hj) with h | rfl
     ·exact i3 i j a d hij h ha hd
     ·rw [htk] at hd; cases hd
      have hk1 : x.terms[j - 1]? = some (x.terms[j - 1]'(by omega)) := List.getElem?_eq_getElem (by omega)
      have h1 := hbo rfl _ (by omega) hk1
      rcases Nat.lt_or_eq_of_le (Nat.le_sub_one_of_lt hij) with h | rfl
      ·exact cmpS_trans (i3 i (j - 1) a _ h (by omega) ha hk1) h1
      ·rw [hk1] at ha; cases ha; exact h1
   ·refine Or.inl ⟨c, ?_, ?_, hc0⟩
    ·rw [if_pos (by simpa using hc0)]
    ·rw [if_neg hc0]
     rfl) with ⟨r, a1, a2, h⟩ | ⟨_, _, a1, a2, i1, i3⟩
 ·exact Or.inl ⟨r, a1, a2, h⟩
 ·refine Or.inr ⟨a1, a2, hx, fun t ht => ?_, fun i j t u hij ht hu => i3 i j t u hij (List.getElem?_eq_some_iff.1 hu).1 ht hu⟩
  obtain ⟨j, hj⟩ := List.mem_iff_getElem?.1 ht
  exact i1 j t (List.getElem?_eq_some_iff.1 hj).1 hj
theorem index_eq (x : know_Index) (hs : Small x) : ∃ c, know_CheckIndex x = some c ∧ portref2_IndexFault x = some c ∧ (c = 0 → IndexOk x) := by
 unfold know_CheckIndex portref2_IndexFault
 cases h1 : decide ((200 : Int) < (x.ids.length : Int)) with
 | true => exact ⟨4, rfl, rfl, fun h => absurd h (by decide)⟩
 | false =>
 cases h2 : ((x.sizes.length : Int) != (x.ids.length : Int)) with
 | true => exact ⟨1, rfl, rfl, fun h => absurd h (by decide)⟩
 | false =>
 rw [decide_eq_false_iff_not] at h1
 have hsz : x.sizes.length = x.ids.length := by simp at h2; omega
 simp only [Bool.false_eq_true, if_false]
 rcases ids_eq x (by omega) hsz with ⟨r, a1, a2, h⟩ | ⟨a1, a2, hx⟩
 ·rw [a1, a2]
  exact ⟨r, rfl, rfl, fun h0 => absurd h0 h⟩
 rw [a1, a2]
 simp only [Option.bind_some, Lp.andThen_fin]
 rcases terms_eq hx hs with ⟨r, a1, a2, h⟩ | ⟨a1, a2, hx⟩
 ·rw [a1, a2]
  exact ⟨r, rfl, rfl, fun h0 => absurd h0 h⟩
 ·rw [a1, a2]
  exact ⟨0, rfl, rfl, fun _ => hx⟩
end Go.Proofs.YtjdjmddclfhpeaaGreatDoor.M
namespace Go.Proofs.YtjdjmddclfhpeaaGreatDoor.M
open Go Go.Pu
set_option linter.unusedSimpArgs false
set_option linter.unusedVariables false
theorem first_loop {α S R : Type} (l : List α) (p : α → Bool) (g : α → R) (s : S) (body : Nat → S → Option (Ctl S R)) (hbody : ∀ (k : Nat) (x : α), l[k]? = some x → body k s = if p x = true then some (.rt (g x)) else some (.nx s)) :
  (∀ (a : Nat) (x : α), l[a]? = some x → p x = true → (∀ (j : Nat) (y : α), j < a → l[j]? = some y → p y = false) → rangeB body l.length 0 s = some (.rt (g x))) ∧ ((∀ x ∈ l, p x = false) → rangeB body l.length 0 s = some (.fin s)) := by
 refine ⟨fun a x hx hp hn => ?_, fun hn => ?_⟩
 ·obtain ⟨o, ho, hq⟩ := rangeB_spec (body := body) l.length (fun k t => k ≤ a ∧ t = s) (fun o => o = .rt (g x)) (s := s) ⟨Nat.zero_le _, rfl⟩ (by
   rintro k t hk ⟨hI, rfl⟩
   have hy : l[k]? = some l[k] := List.getElem?_eq_getElem hk
   rw [hbody k _ hy]
   rcases Nat.lt_or_eq_of_le hI with h | rfl
   ·rw [if_neg (by rw [hn k _ h hy]; exact Bool.false_ne_true)]
    exact ⟨_, rfl, h, rfl⟩
   ·rw [hy] at hx; cases hx
    rw [if_pos hp]
    exact ⟨_, rfl, rfl⟩) (fun t h => by
   have := (List.getElem?_eq_some_iff.1 hx).1
   exact absurd h.1 (by omega))
  rw [ho, hq]
 ·obtain ⟨t, ho, rfl⟩ := rangeB_inv (b := body) l.length (fun _ t => t = s) (s := s) rfl (by
   rintro k t hk rfl
   have hy : l[k]? = some l[k] := List.getElem?_eq_getElem hk
   rw [hbody k _ hy, if_neg (by rw [hn _ (List.getElem_mem hk)]; exact Bool.false_ne_true)]
   exact ⟨_, rfl, rfl⟩)
  exact ho
theorem find_term {x : know_Index} (hx : IndexOk x) (hs : Small x) (w : ByteArray) : ∃ r, know_Index_term x w = some r ∧ portref2_termOf x w = some r ∧ (r.2 = true → r.1 ∈ x.terms ∧ r.1.word = w) ∧ (r.2 = false → r.1.list_ = [] ∧ ∀ u ∈ x.terms, u.word ≠ w) := by
 have hl := hs.terms
 unfold know_Index_term portref2_termOf
 obtain ⟨a, ha, e, hlo, hhi⟩ := search_loop (R := Int × Bool) (l := x.terms) (by omega) (fun t => some (decide (cmpS t.word w < 0))) (fun t => decide (cmpS t.word w < 0)) (fun _ _ => rfl) (fun p q t u hpq ht hu h => by
  have := hx.words p q t u hpq ht hu
  rw [decide_eq_true_eq] at h ⊢
  exact cmpS_trans this h) (fun s12 => if (decide (s12.1 < s12.2)) = true then Option.bind (Option.bind (shr .u64 (IntKind.wrap .u64 (w64 (s12.1 + s12.2))) 1) fun x32 => Option.bind (idx x.terms (IntKind.wrap .i64 x32)) fun x33 => Option.bind (know_Index_term_1 x33 w) fun x40 => Option.bind (if (decide (x40 < 0)) = true then some (w64 ((IntKind.wrap .i64 x32) + 1), s12.2) else some (s12.1, IntKind.wrap .i64 x32)) fun s45 => some (s45.1, s45.2)) fun s25 => some (.nx (s25.1, s25.2)) else some (.bk (s12.1, s12.2))) (fun s => by
  split
  ·cases shr .u64 (IntKind.wrap .u64 (w64 (s.1 + s.2))) 1 with
   | none => rfl
   | some u =>
    simp only [Option.bind_some]
    cases idx x.terms (IntKind.wrap .i64 u) with
    | none => rfl
    | some t =>
     have e1 : know_Index_term_1 t w = some (cmpS t.word w) := rfl
     simp only [Option.bind_some, e1]
     split <;> rfl
  ·rfl)
 obtain ⟨f1, f2⟩ := first_loop (R := know_Term × Bool) x.terms (fun t => strEq t.word w) (fun t => (t, true)) (⟨ByteArray.empty, ([] : (List know_Posting))⟩ : know_Term) (fun k26 s34 => Option.bind (idx x.terms (k26 : Int)) fun x49 => if (strEq x49.word w) = true then some (.rt (x49, true)) else some (.nx s34)) (fun k t ht => by rw [idx_nat, ht]; rfl)
 unfold slices_BinarySearchFunc_Lknow_Term_know_Term_string
 rw [e, Option.bind_some, Lp.andThen_fin]
 by_cases hf : ∃ t, x.terms[a]? = some t ∧ t.word = w
 ·obtain ⟨t, ht, rfl⟩ := hf
  have hal : a < x.terms.length := (List.getElem?_eq_some_iff.1 ht).1
  have e1 : know_Index_term_1 t t.word = some (cmpS t.word t.word) := rfl
  rw [f1 a t ht (by rw [strEq_cmp]; simp) (fun j u hj hu => by
   have := hlo j u hj hu
   rw [decide_eq_true_eq] at this
   rw [strEq_cmp, decide_eq_false_iff_not, ← cmpS_zero]
   omega)]
  rw [if_pos (by rw [decide_eq_true_eq]; omega)]
  simp only [idx_nat, ht, Option.bind_some, e1, cmpS_self, beq_self_eq_true, Bool.not_true, Bool.false_eq_true, if_false]
  exact ⟨(t, true), rfl, rfl, fun _ => ⟨List.mem_of_getElem? ht, rfl⟩, fun h => by cases h⟩
 ·have hno : ∀ u ∈ x.terms, strEq u.word w = false := fun u hu => by
   obtain ⟨q, hq⟩ := List.mem_iff_getElem?.1 hu
   rw [strEq_cmp, decide_eq_false_iff_not]
   intro huw
   rcases Nat.lt_trichotomy q a with h | h | h
   ·have := hlo q u h hq
    rw [huw, cmpS_self] at this
    cases this
   ·exact hf ⟨u, by rw [← h]; exact hq, huw⟩
   ·have hal : a < x.terms.length := by have := (List.getElem?_eq_some_iff.1 hq).1; omega
    have h1 := hhi a _ (Nat.le_refl _) (List.getElem?_eq_getElem hal)
    have h2 := hx.words a q _ u h (List.getElem?_eq_getElem hal) hq
    rw [decide_eq_false_iff_not] at h1
    rw [huw] at h2
    exact h1 h2
  rw [f2 hno]
  refine ⟨((⟨ByteArray.empty, ([] : (List know_Posting))⟩ : know_Term), false), ?_, rfl, (fun h => by cases h), fun _ => ⟨rfl, fun u hu h => by have := hno u hu; rw [strEq_cmp, decide_eq_false_iff_not] at this; exact this h⟩⟩
  by_cases hal : a < x.terms.length
  ·have ht : x.terms[a]? = some x.terms[a] := List.getElem?_eq_getElem hal
   rw [if_pos (by rw [decide_eq_true_eq]; omega)]
   have hne : cmpS x.terms[a].word w ≠ 0 := fun h => hf ⟨_, ht, (cmpS_zero _ _).1 h⟩
   generalize x.terms[a] = t at ht hne
   have e1 : know_Index_term_1 t w = some (cmpS t.word w) := rfl
   have e2 : (cmpS t.word w == 0) = false := by rw [beq_eq_false_iff_ne]; exact hne
   simp only [idx_nat, ht, Option.bind_some, e1, e2, Bool.not_false, if_true]
  ·rw [if_neg (by rw [decide_eq_true_eq]; omega)]
   rfl
theorem find_post {t : know_Term} (ht : ∀ (i j : Nat) (p q : know_Posting), i < j → t.list_[i]? = some p → t.list_[j]? = some q → p.id_ < q.id_) (hl : t.list_.length ≤ 1048576) (id : Int) : ∃ r, know_Term_posting t id = some r ∧ portref2_postingOf t id = some r ∧ (r.2 = true → r.1 ∈ t.list_ ∧ r.1.id_ = id) ∧ (r.2 = false → r.1.title = [] ∧ r.1.body = [] ∧ ∀ u ∈ t.list_, u.id_ ≠ id) := by
 unfold know_Term_posting portref2_postingOf
 have e0 : ∀ p : know_Posting, ∃ c, know_Term_posting_1 p id = some c ∧ (decide (c < 0) = decide (p.id_ < id)) ∧ ((c == 0) = decide (p.id_ = id)) := fun p => by
  unfold know_Term_posting_1
  rw [compare_ii]
  refine ⟨_, rfl, ?_, ?_⟩
  ·rw [Bool.eq_iff_iff, decide_eq_true_eq, decide_eq_true_eq]
   split
   ·omega
   ·split <;> omega
  ·rw [Bool.eq_iff_iff, beq_iff_eq, decide_eq_true_eq]
   split
   ·omega
   ·split <;> omega
 obtain ⟨a, ha, e, hlo, hhi⟩ := search_loop (R := Int × Bool) (l := t.list_) (by omega) (fun p => some (decide (p.id_ < id))) (fun p => decide (p.id_ < id)) (fun _ _ => rfl) (fun p q u v hpq hu hv h => by
  have := ht p q u v hpq hu hv
  rw [decide_eq_true_eq] at h ⊢
  omega) (fun s12 => if (decide (s12.1 < s12.2)) = true then Option.bind (Option.bind (shr .u64 (IntKind.wrap .u64 (w64 (s12.1 + s12.2))) 1) fun x32 => Option.bind (idx t.list_ (IntKind.wrap .i64 x32)) fun x33 => Option.bind (know_Term_posting_1 x33 id) fun x42 => Option.bind (if (decide (x42 < 0)) = true then some (w64 ((IntKind.wrap .i64 x32) + 1), s12.2) else some (s12.1, IntKind.wrap .i64 x32)) fun s47 => some (s47.1, s47.2)) fun s25 => some (.nx (s25.1, s25.2)) else some (.bk (s12.1, s12.2))) (fun s => by
  split
  ·cases shr .u64 (IntKind.wrap .u64 (w64 (s.1 + s.2))) 1 with
   | none => rfl
   | some u =>
    simp only [Option.bind_some]
    cases idx t.list_ (IntKind.wrap .i64 u) with
    | none => rfl
    | some p =>
     obtain ⟨c, c1, c2, _⟩ := e0 p
     simp only [Option.bind_some, c1, c2]
     split <;> rfl
  ·rfl)
 obtain ⟨f1, f2⟩ := first_loop (R := know_Posting × Bool) t.list_ (fun p => p.id_ == id) (fun p => (p, true)) (⟨0, ([] : (List Int)), ([] : (List Int))⟩ : know_Posting) (fun k21 s31 => Option.bind (idx t.list_ (k21 : Int)) fun x49 => if (x49.id_ == id) = true then some (.rt (x49, true)) else some (.nx s31)) (fun k p hp => by rw [idx_nat, hp]; rfl)
 unfold slices_BinarySearchFunc_Lknow_Posting_know_Posting_int
 rw [e, Option.bind_some, Lp.andThen_fin]
 by_cases hf : ∃ p, t.list_[a]? = some p ∧ p.id_ = id
 ·obtain ⟨p, hp, hpi⟩ := hf
  have hal : a < t.list_.length := (List.getElem?_eq_some_iff.1 hp).1
  obtain ⟨c, c1, _, c3⟩ := e0 p
  rw [f1 a p hp (by simpa using hpi) (fun j u hj hu => by
   have := hlo j u hj hu
   rw [decide_eq_true_eq] at this
   rw [beq_eq_false_iff_ne]
   omega)]
  rw [if_pos (by rw [decide_eq_true_eq]; omega)]
  have c3' : (c == 0) = true := by rw [c3]; simpa using hpi
  simp only [idx_nat, hp, Option.bind_some, c1, c3', Bool.not_true, Bool.false_eq_true, if_false]
  exact ⟨(p, true), rfl, rfl, fun _ => ⟨List.mem_of_getElem? hp, hpi⟩, fun h => by cases h⟩
 ·have hno : ∀ u ∈ t.list_, (u.id_ == id) = false := fun u hu => by
   obtain ⟨q, hq⟩ := List.mem_iff_getElem?.1 hu
   rw [beq_eq_false_iff_ne]
   intro hui
   rcases Nat.lt_trichotomy q a with h | h | h
   ·have := hlo q u h hq
    rw [decide_eq_true_eq] at this
    omega
   ·exact hf ⟨u, by rw [← h]; exact hq, hui⟩
   ·have hal : a < t.list_.length := by have := (List.getElem?_eq_some_iff.1 hq).1; omega
    have h1 := hhi a _ (Nat.le_refl _) (List.getElem?_eq_getElem hal)
    have h2 := ht a q _ u h (List.getElem?_eq_getElem hal) hq
    rw [decide_eq_false_iff_not] at h1
    omega
  rw [f2 hno]
  refine ⟨((⟨0, ([] : (List Int)), ([] : (List Int))⟩ : know_Posting), false), ?_, rfl, (fun h => by cases h), fun _ => ⟨rfl, rfl, fun u hu h => by have := hno u hu; rw [beq_eq_false_iff_ne] at this; exact this h⟩⟩
  by_cases hal : a < t.list_.length
  ·have hp : t.list_[a]? = some t.list_[a] := List.getElem?_eq_getElem hal
   rw [if_pos (by rw [decide_eq_true_eq]; omega)]
   have hne : t.list_[a].id_ ≠ id := fun h => hf ⟨_, hp, h⟩
   generalize t.list_[a] = p at hp hne
   obtain ⟨c, c1, _, c3⟩ := e0 p
   have c3' : (c == 0) = false := by rw [c3]; simpa using hne
   simp only [idx_nat, hp, Option.bind_some, c1, c3', Bool.not_false, if_true]
  ·rw [if_neg (by rw [decide_eq_true_eq]; omega)]
   rfl
end Go.Proofs.YtjdjmddclfhpeaaGreatDoor.M
namespace Go.Proofs.YtjdjmddclfhpeaaGreatDoor.M
open Go Go.Pu
set_option linter.unusedSimpArgs false
set_option linter.unusedVariables false
theorem mapGet_put2 {κ α : Type} [DecidableEq κ] (l : List (κ × α)) (k k' : κ) (v : α) : mapGet (mapPut l k v) k' = if k = k' then some v else mapGet l k' := by
 unfold mapPut
 by_cases h : ∃ p ∈ l, p.1 = k
 ·rw [if_pos h]
  induction l with
  | nil => obtain ⟨p, hp, _⟩ := h; simp at hp
  | cons p l ih =>
   rw [List.map_cons, mapGet, mapGet]
   by_cases hp : p.1 = k
   ·rw [if_pos hp]
    by_cases hk : k = k'
    ·rw [if_pos hk, if_pos hk]
    ·rw [if_neg hk, if_neg hk, if_neg (by rw [hp]; exact hk)]
     by_cases h2 : ∃ p ∈ l, p.1 = k
     ·rw [ih h2, if_neg hk]
     ·have : l.map (fun q => if q.1 = k then (k, v) else q) = l := by
       conv => rhs; rw [← List.map_id l]
       apply List.map_congr_left
       intro q hq
       rw [if_neg (fun e => h2 ⟨q, hq, e⟩)]
       rfl
      rw [this]
   ·rw [if_neg hp]
    have h2 : ∃ p ∈ l, p.1 = k := by
     obtain ⟨q, hq, e⟩ := h
     rcases List.mem_cons.1 hq with rfl | hq
     ·exact absurd e hp
     ·exact ⟨q, hq, e⟩
    by_cases hp' : p.1 = k'
    ·rw [if_pos hp', if_pos hp', if_neg (fun e => hp (hp'.trans e.symm))]
    ·rw [if_neg hp', if_neg hp', ih h2]
 ·rw [if_neg h]
  induction l with
  | nil => simp [mapGet]
  | cons p l ih =>
   have hp : p.1 ≠ k := fun e => h ⟨p, by simp, e⟩
   have h2 : ¬ ∃ p ∈ l, p.1 = k := fun ⟨q, hq, e⟩ => h ⟨q, by simp [hq], e⟩
   rw [List.cons_append, mapGet, mapGet, ih h2]
   by_cases hp' : p.1 = k'
   ·rw [if_pos hp', if_pos hp', if_neg (fun e => hp (hp'.trans e.symm))]
   ·rw [if_neg hp', if_neg hp']
theorem rangeB_sim' {S S' R R' : Type} {b : Nat → S → Option (Ctl S R)} {b' : Nat → S' → Option (Ctl S' R')} (n : Nat) (I : Nat → S → S' → Prop) {s : S} {s' : S'} (h0 : I 0 s s')
  (round : ∀ k s s', k < n → I k s s' → ∃ t t', b k s = some (.nx t) ∧ b' k s' = some (.nx t') ∧ I (k + 1) t t') : ∃ t t', rangeB b n 0 s = some (.fin t) ∧ rangeB b' n 0 s' = some (.fin t') ∧ I n t t' := by
 have key : ∀ m k s s', k + m = n → I k s s' → ∃ t t', rangeB b m k s = some (.fin t) ∧ rangeB b' m k s' = some (.fin t') ∧ I n t t' := by
  intro m
  induction m with
  | zero =>
   intro k s s' hk hI
   obtain rfl : k = n := by omega
   exact ⟨s, s', rfl, rfl, hI⟩
  | succ m ih =>
   intro k s s' hk hI
   obtain ⟨t, t', h1, h2, hI'⟩ := round k s s' (by omega) hI
   rw [rangeB, rangeB, h1, h2]
   exact ih (k + 1) t t' (by omega) hI'
 exact key n 0 s s' (by omega) h0
theorem wordsF_size : ∀ (n : Nat) (l : List UInt8), ∀ w ∈ wordsF n l, w.size ≤ 30
 | 0, l => by simp [wordsF]
 | n + 1, l => by
  rw [wordsF]
  by_cases hl : l = []
  ·rw [if_pos hl]; simp
  ·rw [if_neg hl]
   intro w hw
   rcases List.mem_append.1 hw with h | h
   ·unfold headW at h
    split at h
    ·rename_i h2
     rw [List.mem_singleton] at h
     subst h
     show ((l.takeWhile wb).map low8).toArray.size ≤ 30
     simpa using h2.2
    ·cases h
   ·exact wordsF_size n _ w h
structure Picked (x : know_Index) (L : List know_Term) : Prop where
 mem : ∀ t ∈ L, t ∈ x.terms
theorem same_word {x : know_Index} (hx : IndexOk x) {t u : know_Term} (ht : t ∈ x.terms) (hu : u ∈ x.terms) (h : t.word = u.word) : t = u := by
 obtain ⟨i, hi⟩ := List.mem_iff_getElem?.1 ht
 obtain ⟨j, hj⟩ := List.mem_iff_getElem?.1 hu
 rcases Nat.lt_trichotomy i j with h1 | h1 | h1
 ·have := hx.words i j t u h1 hi hj
  rw [h, cmpS_self] at this
  cases this
 ·subst h1; rw [hi] at hj; exact Option.some.inj hj
 ·have := hx.words j i u t h1 hj hi
  rw [h, cmpS_self] at this
  cases this
theorem or_two_ints (a b : Int) : cmp_Or_int [a, b] = some (if a ≠ 0 then a else b) := by
 by_cases ha : a = 0
 ·by_cases hb : b = 0 <;> simp [cmp_Or_int, ha, hb, rangeB, idx, Lp.andThen]
 ·simp [cmp_Or_int, ha, rangeB, idx, Lp.andThen]
theorem take_val {α : Type} (l : List α) (m : Nat) (h : m ≤ l.length) : sliceL l none (some (m : Int)) = some (l.take m) := by
 unfold sliceL bounds
 simp only [Option.getD_some, Option.getD_none]
 rw [if_pos (by omega)]
 simp
theorem bits_some (n : Int) : ∃ v, math_bits_Len n = some v := by
 unfold math_bits_Len math_bits_Len64
 have hsh : ∀ (x : Int) (c : Int), 0 ≤ c → ∃ y, shr .u64 x c = some y := fun x c hc => by
  unfold shr
  rw [if_neg (by omega)]
  exact ⟨_, rfl⟩
 obtain ⟨a, ha⟩ := hsh n 32 (by decide)
 have hidx : ∀ b : UInt8, ∃ y, idxS (⟨#[0, 1, 2, 2, 3, 3, 3, 3, 4, 4, 4, 4, 4, 4, 4, 4, 5, 5, 5, 5, 5, 5, 5, 5, 5, 5, 5, 5, 5, 5, 5, 5, 6, 6, 6, 6, 6, 6, 6, 6, 6, 6, 6, 6, 6, 6, 6, 6, 6, 6, 6, 6, 6, 6, 6, 6, 6, 6, 6, 6, 6, 6, 6, 6, 7, 7, 7, 7, 7, 7, 7, 7, 7, 7, 7, 7, 7, 7, 7, 7, 7, 7, 7, 7, 7, 7, 7, 7, 7, 7, 7, 7, 7, 7, 7, 7, 7, 7, 7, 7, 7, 7, 7, 7, 7, 7, 7, 7, 7, 7, 7, 7, 7, 7, 7, 7, 7, 7, 7, 7, 7, 7, 7, 7, 7, 7, 7, 7, 8, 8, 8, 8, 8, 8, 8, 8, 8, 8, 8, 8, 8, 8, 8, 8, 8, 8, 8, 8, 8, 8, 8, 8, 8, 8, 8, 8, 8, 8, 8, 8, 8, 8, 8, 8, 8, 8, 8, 8, 8, 8, 8, 8, 8, 8, 8, 8, 8, 8, 8, 8, 8, 8, 8, 8, 8, 8, 8, 8, 8, 8, 8, 8, 8, 8, 8, 8, 8, 8, 8, 8, 8, 8, 8, 8, 8, 8, 8, 8, 8, 8, 8, 8, 8, 8, 8, 8, 8, 8, 8, 8, 8, 8, 8, 8, 8, 8, 8, 8, 8, 8, 8, 8, 8, 8, 8, 8, 8, 8, 8, 8, 8, 8, 8, 8, 8, 8, 8, 8, 8, 8, 8, 8, 8, 8, 8, 8]⟩ : ByteArray) ((b.toNat : Nat) : Int) = some y := fun b => by
  have hb := b.toNat_lt
  rw [idxS_list]
  have hl : (⟨#[0, 1, 2, 2, 3, 3, 3, 3, 4, 4, 4, 4, 4, 4, 4, 4, 5, 5, 5, 5, 5, 5, 5, 5, 5, 5, 5, 5, 5, 5, 5, 5, 6, 6, 6, 6, 6, 6, 6, 6, 6, 6, 6, 6, 6, 6, 6, 6, 6, 6, 6, 6, 6, 6, 6, 6, 6, 6, 6, 6, 6, 6, 6, 6, 7, 7, 7, 7, 7, 7, 7, 7, 7, 7, 7, 7, 7, 7, 7, 7, 7, 7, 7, 7, 7, 7, 7, 7, 7, 7, 7, 7, 7, 7, 7, 7, 7, 7, 7, 7, 7, 7, 7, 7, 7, 7, 7, 7, 7, 7, 7, 7, 7, 7, 7, 7, 7, 7, 7, 7, 7, 7, 7, 7, 7, 7, 7, 7, 8, 8, 8, 8, 8, 8, 8, 8, 8, 8, 8, 8, 8, 8, 8, 8, 8, 8, 8, 8, 8, 8, 8, 8, 8, 8, 8, 8, 8, 8, 8, 8, 8, 8, 8, 8, 8, 8, 8, 8, 8, 8, 8, 8, 8, 8, 8, 8, 8, 8, 8, 8, 8, 8, 8, 8, 8, 8, 8, 8, 8, 8, 8, 8, 8, 8, 8, 8, 8, 8, 8, 8, 8, 8, 8, 8, 8, 8, 8, 8, 8, 8, 8, 8, 8, 8, 8, 8, 8, 8, 8, 8, 8, 8, 8, 8, 8, 8, 8, 8, 8, 8, 8, 8, 8, 8, 8, 8, 8, 8, 8, 8, 8, 8, 8, 8, 8, 8, 8, 8, 8, 8, 8, 8, 8, 8, 8, 8]⟩ : ByteArray).data.toList.length = 256 := by decide +kernel
  exact ⟨_, List.getElem?_eq_getElem (by rw [hl]; exact hb)⟩
 have step : ∀ (c : Bool) (x y : Int) (k : Int) (hk : 0 ≤ k) (z : Int), ∃ p : Int × Int, (if c = true then Option.bind (shr .u64 x k) fun x8 => some (x8, z) else some (x, y)) = some p := fun c x y k hk z => by
  obtain ⟨u, hu⟩ := hsh x k hk
  cases c
  ·exact ⟨_, rfl⟩
  ·rw [hu]; exact ⟨_, rfl⟩
 obtain ⟨p1, h1⟩ := step (decide ((4294967296 : Int) ≤ n)) n 0 32 (by decide) 32
 rw [h1, Option.bind_some]
 obtain ⟨p2, h2⟩ := step (decide ((65536 : Int) ≤ p1.1)) p1.1 p1.2 16 (by decide) (w64 (p1.2 + 16))
 rw [h2, Option.bind_some]
 obtain ⟨p3, h3⟩ := step (decide ((256 : Int) ≤ p2.1)) p2.1 p2.2 8 (by decide) (w64 (p2.2 + 8))
 rw [h3, Option.bind_some]
 obtain ⟨y, hy⟩ := hidx (toU8 p3.1)
 rw [hy]
 exact ⟨_, rfl⟩
theorem score_eq {x : know_Index} (hx : IndexOk x) (hs : Small x) {t : know_Term} (ht : t ∈ x.terms) (k : Nat) (id : Int) (hk : x.ids[k]? = some id) :
  ∃ v, know_Index_score x t (k : Int) = some v ∧ portref2_termScore x t id = some v := by
 unfold know_Index_score portref2_termScore
 obtain ⟨r, r1, r2, r3, _⟩ := find_post (hx.terms t ht).rise (hs.list t ht) id
 rw [idx_nat, hk, Option.bind_some, r1, r2, Option.bind_some, Option.bind_some]
 cases hr : r.2 with
 | false => exact ⟨0, rfl, rfl⟩
 | true =>
  simp only [Bool.not_true, Bool.false_eq_true, if_false]
  have hne := (hx.terms t ht).ne
  have hpos : 0 < t.list_.length := List.length_pos_iff.2 hne
  have hq : quo (x.ids.length : Int) (t.list_.length : Int) = some (w64 ((x.ids.length : Int).tdiv (t.list_.length : Int))) := by
   unfold quo
   rw [if_neg (by omega)]
  obtain ⟨b, hb⟩ := bits_some (IntKind.wrap .u64 (w64 ((x.ids.length : Int).tdiv (t.list_.length : Int))))
  have hkl : k < x.ids.length := (List.getElem?_eq_some_iff.1 hk).1
  have hsl : k < x.sizes.length := by have := hx.sizes; omega
  have hz := hx.size _ (List.getElem_mem hsl)
  obtain ⟨a, _, b2, _⟩ := bsearch_val (l := x.ids) (by have := hx.len; omega) hx.rise id
  obtain ⟨c1, c2⟩ := b2 (List.mem_of_getElem? hk)
  have hak : a = k := by
   rcases Nat.lt_trichotomy a k with h | h | h
   ·have := hx.rise a k id id h c1 hk; omega
   ·exact h
   ·have := hx.rise k a id id h hk c1; omega
  subst hak
  simp only [hq, Option.bind_some, hb, c2, idx_lt _ _ hsl]
  generalize x.sizes[a] = z at hz
  have hq2 : ∀ n : Int, ∃ v, quo n (w64 (z + 20)) = some v := fun n => by
   unfold quo
   rw [w64_id (by omega) (by omega), if_neg (by omega)]
   exact ⟨_, rfl⟩
  obtain ⟨v, hv⟩ := hq2 (w64 ((w64 ((w64 ((w64 (5 * (r.1.title.length : Int))) + (r.1.body.length : Int))) * 1000)) * b))
  rw [hv]
  exact ⟨v, rfl, rfl⟩
def hl_ (a b : know_Hit) : Prop := b.score < a.score ∨ a.score = b.score ∧ a.id_ < b.id_
theorem rank_val (a b : know_Hit) : ∃ v, know_ranked_1 a b = some v ∧ portref2_ranked_1 a b = some v ∧ (v < 0 ↔ hl_ a b) := by
 unfold know_ranked_1 portref2_ranked_1
 rw [or_two_ints, compare_ii, compare_ii, Option.bind_some]
 refine ⟨_, rfl, rfl, ?_⟩
 unfold hl_
 split <;> split <;> (try split) <;> omega
theorem ranked_eq (H : List know_Hit) (hl : H.length ≤ 200) (most : Int) (h0 : 0 ≤ most) : ∃ R, know_ranked H most = some R ∧ portref2_ranked H most = some R := by
 have hcmp : (fun y5 y6 => portref2_ranked_1 y5 y6) = (fun y5 y6 => know_ranked_1 y5 y6) := by
  funext a b
  obtain ⟨v, h1, h2, _⟩ := rank_val a b
  rw [h1, h2]
 have hlt : ∀ a b : know_Hit, cmpLt (fun y5 y6 => know_ranked_1 y5 y6) a b = true ↔ hl_ a b := fun a b => by
  obtain ⟨v, h1, _, h2⟩ := rank_val a b
  unfold cmpLt
  simp only [h1, decide_eq_true_eq]
  exact h2
 have hnl : ∀ a b : know_Hit, cmpLt (fun y5 y6 => know_ranked_1 y5 y6) a b = false ↔ ¬ hl_ a b := fun a b => by rw [← hlt, Bool.not_eq_true]
 have hok : SortOk (fun y5 y6 => know_ranked_1 y5 y6) H := by
  refine ⟨by omega, fun a _ b _ => ?_, fun a _ => ?_, fun a _ b _ c _ => ?_, fun a _ b _ c _ => ?_, fun a ha b hb => ?_⟩
  ·obtain ⟨v, h1, _⟩ := rank_val a b
   exact ⟨v, h1⟩
  ·rw [hnl]; unfold hl_; omega
  ·rw [hlt, hlt, hlt]; unfold hl_; omega
  ·rw [hnl, hnl, hnl]; unfold hl_; omega
  ·rw [hnl, hnl]
   intro h1 h2
   unfold hl_ at h1 h2
   obtain ⟨i, s⟩ := a
   obtain ⟨j, u⟩ := b
   simp only at h1 h2
   obtain rfl : i = j := by omega
   obtain rfl : s = u := by omega
   rfl
 unfold know_ranked portref2_ranked
 rw [hcmp]
 unfold sortFuncL
 rw [if_pos hok]
 simp only [Option.bind_some]
 have hlm : (H.mergeSort fun a b => !(cmpLt (fun y5 y6 => know_ranked_1 y5 y6) b a)).length = H.length := List.length_mergeSort _
 generalize (H.mergeSort fun a b => !(cmpLt (fun y5 y6 => know_ranked_1 y5 y6) b a)) = G at hlm
 obtain ⟨m, hm⟩ : ∃ m : Nat, most = (m : Int) := ⟨most.toNat, by omega⟩
 subst hm
 have e1 : (if (G.length : Int) < (m : Int) then (G.length : Int) else (m : Int)) = ((min m G.length : Nat) : Int) := by split <;> omega
 have e2 : (if (m : Int) < (G.length : Int) then (m : Int) else (G.length : Int)) = ((min m G.length : Nat) : Int) := by split <;> omega
 rw [e1, e2, take_val _ _ (Nat.min_le_right _ _)]
 simp only [Option.bind_some]
 refine ⟨G.take (min m G.length), ?_, rfl⟩
 unfold slices_Clone_Lknow_Hit_know_Hit appendL
 rw [if_pos (by simp; omega)]
 rfl
theorem equal_hits (l : List know_Hit) : slices_Equal_Lknow_Hit_know_Hit l l = some true := by
 unfold slices_Equal_Lknow_Hit_know_Hit
 simp only [bne_self_eq_false, Bool.false_eq_true, if_false]
 obtain ⟨t, h, _⟩ := rangeB_inv (R := Bool) (b := fun k9 (_ : Unit) => Option.bind (idx l (k9 : Int)) fun x29 => Option.bind (idx l (k9 : Int)) fun x34 => if (!(x29.id_ == x34.id_ && (x29.score == x34.score))) = true then some (.rt false) else some (.nx ())) l.length (fun _ _ => True) (s := ()) trivial
  (fun k s hk _ => by rw [idx_lt _ _ hk]; simp)
 rw [h]
 rfl
def bpost (p : know_Posting) : Nat := 1 + (((p.title.map fun _ => 1).sum + 1) + ((p.body.map fun _ => 1).sum + 1))
def bterm (t : know_Term) : Nat := (t.word.size + 1) + ((t.list_.map bpost).sum + 1)
def bindex (x : know_Index) : Nat := ((x.ids.map fun _ => 1).sum + 1) + (((x.sizes.map fun _ => 1).sum + 1) + ((x.terms.map bterm).sum + 1))
end Go.Proofs.YtjdjmddclfhpeaaGreatDoor.M
namespace Go.Proofs.YtjdjmddclfhpeaaGreatDoor.M
open Go Go.Pu
set_option linter.unusedSimpArgs false
set_option linter.unusedVariables false
def joinB (xs : List ByteArray) (sep : ByteArray) : ByteArray := ⟨(Go.Lib.join (xs.map (·.data.toList)) sep.data.toList).toArray⟩
theorem lens_le (k : Nat) : ∀ (xs : List ByteArray), (∀ x ∈ xs, x.size ≤ k) → Go.Lib.lens (xs.map (·.data.toList)) ≤ k * xs.length
 | [], _ => by simp [Go.Lib.lens]
 | x :: xs, h => by
  have h1 := lens_le k xs fun y hy => h y (List.mem_cons_of_mem _ hy)
  have h2 : x.data.toList.length ≤ k := h x (List.mem_cons_self ..)
  simp only [Go.Lib.lens, List.map_cons, List.sum_cons, List.length_cons, Nat.mul_succ] at h1 ⊢
  omega
theorem join_len (k m : Nat) (xs : List ByteArray) (sep : ByteArray) (h : ∀ x ∈ xs, x.size ≤ k) (hs : sep.size ≤ m) : (joinB xs sep).size ≤ (k + m) * xs.length := by
 show (Go.Lib.join (xs.map (·.data.toList)) sep.data.toList).toArray.size ≤ _
 rw [List.size_toArray]
 cases xs with
 | nil => simp [Go.Lib.join_nil]
 | cons x xs =>
  have h1 := lens_le k (x :: xs) h
  rw [List.map_cons, Go.Lib.join_length, ← List.map_cons (f := fun z : ByteArray => z.data.toList), List.length_map]
  have h2 : sep.data.toList.length ≤ m := hs
  have h3 : sep.data.toList.length * xs.length ≤ m * xs.length := Nat.mul_le_mul_right _ h2
  rw [Nat.add_mul]
  have h4 : m * (x :: xs).length = m * xs.length + m := by rw [List.length_cons, Nat.mul_succ]
  omega
theorem join_some (k m : Nat) (xs : List ByteArray) (sep : ByteArray) (h : ∀ x ∈ xs, x.size ≤ k) (hs : sep.size ≤ m) (hn : xs.length ≤ 100000000) (hb : (k + m) * xs.length ≤ 140737488355328) : strings_Join xs sep = some (joinB xs sep) := by
 unfold strings_Join
 rw [if_pos]
 ·rfl
 refine ⟨by omega, ?_⟩
 have := join_len k m xs sep h hs
 have e : (joinB xs sep).size = (Go.Lib.join (xs.map (·.data.toList)) sep.data.toList).length   := by simp [joinB, ByteArray.size]
 omega
theorem cat_val (s t : ByteArray) (hs : s.size ≤ 1000000000000000) (ht : t.size ≤ 1000000000000000) : catS s t = some (s ++ t) ∧ (s ++ t).size = s.size + t.size := by
 constructor
 ·unfold catS
  rw [if_neg]
  have : IntKind.i64.max = 9223372036854775807 := by decide
  rw [this]
  omega
 ·exact ByteArray.size_append
theorem append_some {α : Type} {s t : List α} (h : s.length + t.length ≤ 8796093022208) : appendL 8796093022208 s t = some (s ++ t) := by
 unfold appendL
 rw [if_pos h]
theorem strEq_self (s : ByteArray) : strEq s s = true := by
 unfold strEq
 simp
end Go.Proofs.YtjdjmddclfhpeaaGreatDoor.M
namespace Go.Proofs.YtjdjmddclfhpeaaGreatDoor.M
open Go Go.Pu
set_option linter.unusedSimpArgs false
set_option linter.unusedVariables false
def badP (p : know_Part) : Bool := (((decide (p.kind < 0)) || (decide ((2 : Int) < p.kind))) || ((p.words.length : Int) == 0)) || ((p.kind != 1) && ((p.words.length : Int) != 1))
theorem badP_prog (p : know_Part) : (((!(know_within p.kind 0 2)) || ((p.words.length : Int) == 0)) || ((p.kind != 1) && (decide ((1 : Int) < (p.words.length : Int))))) = badP p := by
 unfold badP know_within
 rw [Bool.eq_iff_iff]
 simp only [Bool.or_eq_true, Bool.and_eq_true, Bool.not_eq_true', Bool.and_eq_false_iff, decide_eq_true_eq, decide_eq_false_iff_not, beq_iff_eq, bne_iff_ne]
 omega
def badW (w : ByteArray) : Bool := ((((wordsL w.data.toList).length : Int) != 1)) || (!(strEq ((wordsL w.data.toList).headD ⟨#[]⟩) w))
def partText (p : know_Part) : ByteArray :=
 let s := joinB p.words ⟨#[32]⟩
 let s := if p.kind = 1 then ((⟨#[34]⟩ : ByteArray) ++ s) ++ ⟨#[34]⟩ else if p.kind = 2 then s ++ ⟨#[42]⟩ else s
 if p.not_ = true then (⟨#[45]⟩ : ByteArray) ++ s else s
def roundW (l : List know_Part) (k : Nat) (s : List ByteArray) : Option (Ctl (List ByteArray) (ByteArray × Int)) :=
 Option.bind (idx l (k : Int)) fun p => if badP p = true then some (.rt (⟨#[]⟩, 1)) else if p.words.any badW = true then some (.rt (⟨#[]⟩, 1)) else some (.nx (s ++ [partText p]))
theorem words_any (W : ByteArray → Option (List ByteArray)) (l : List ByteArray) (hW : ∀ w ∈ l, W w = some (wordsL w.data.toList)) :
  rangeB (R := ByteArray × Int) (fun k86 (_ : Unit) => Option.bind (idx l (k86 : Int)) fun x105 => Option.bind (W x105) fun x109 => Option.bind (if ((x109.length : Int) != 1) = true then (some true) else (Option.bind (idx x109 0) fun x119 => some (!(strEq x119 x105)))) fun s118 => if s118 = true then some (.rt ((⟨#[]⟩ : ByteArray), 1)) else some (.nx ())) l.length 0 () = some (if l.any badW = true then .rt (⟨#[]⟩, 1) else .fin ()) := by
 rw [← forL_any badW ((⟨#[]⟩ : ByteArray), (1 : Int)) l 0]
 refine rangeB_forL l _ _ ?_ _
 intro k _ x hx
 rw [idx_nat, hx, Option.bind_some, hW x (List.mem_of_getElem? hx), Option.bind_some]
 unfold badW
 by_cases h1 : (((wordsL x.data.toList).length : Int) != 1) = true
 ·rw [if_pos h1, h1]
  simp
 ·rw [if_neg h1]
  have h2 : (wordsL x.data.toList).length = 1 := by
   simp at h1
   omega
  obtain ⟨a, ha⟩ := List.length_eq_one_iff.1 h2
  rw [ha]
  simp [idx]
theorem text_val (p : know_Part) (hw : ∀ w ∈ p.words, w.size ≤ 1048576) (hl : p.words.length ≤ 1048576) :
  strings_Join p.words (⟨#[32]⟩ : ByteArray) = some (joinB p.words ⟨#[32]⟩) ∧ (joinB p.words ⟨#[32]⟩).size ≤ 1099600000000 := by
 have h : (1048576 + 1) * p.words.length ≤ 1099512676352 := by
  have := Nat.mul_le_mul_left (1048576 + 1) hl
  omega
 have h2 := join_len 1048576 1 p.words ⟨#[32]⟩ hw (by decide)
 exact ⟨join_some 1048576 1 p.words _ hw (by decide) (by omega) (by omega), by omega⟩
theorem tail_val (p : know_Part) (hw : ∀ w ∈ p.words, w.size ≤ 1048576) (hl : p.words.length ≤ 1048576) (s : List ByteArray) (hs : s.length ≤ 1000) :
  (Option.bind (strings_Join p.words (⟨#[32]⟩ : ByteArray)) fun x132 => Option.bind (Option.bind (if (p.kind == 1) = true then Option.bind (catS (⟨#[34]⟩ : ByteArray) x132) fun x150 => Option.bind (catS x150 (⟨#[34]⟩ : ByteArray)) fun x151 => some x151 else Option.bind (if (p.kind == 2) = true then Option.bind (catS x132 (⟨#[42]⟩ : ByteArray)) fun x160 => some x160 else some x132) fun s154 => some s154) fun s144 => some s144) fun s138 => Option.bind (if p.not_ = true then Option.bind (catS (⟨#[45]⟩ : ByteArray) s138) fun x173 => some x173 else some s138) fun s167 => Option.bind (appendL 8796093022208 s ([s167] : List ByteArray)) fun x181 => some (Ctl.nx (R := ByteArray × Int) x181)) = some (.nx (s ++ [partText p])) ∧ (partText p).size ≤ 1099700000000 := by
 obtain ⟨h1, h2⟩ := text_val p hw hl
 rw [h1, Option.bind_some]
 unfold partText
 generalize joinB p.words ⟨#[32]⟩ = x at h2
 have s1 : ∀ b : UInt8, (⟨#[b]⟩ : ByteArray).size = 1 := fun b => rfl
 have e1 := cat_val (⟨#[34]⟩ : ByteArray) x (by rw [s1]; omega) (by omega)
 rw [s1] at e1
 have e2 := cat_val ((⟨#[34]⟩ : ByteArray) ++ x) (⟨#[34]⟩ : ByteArray) (by omega) (by rw [s1]; omega)
 rw [s1] at e2
 have e3 := cat_val x (⟨#[42]⟩ : ByteArray) (by omega) (by rw [s1]; omega)
 rw [s1] at e3
 have hx : ∃ y, (Option.bind (if (p.kind == 1) = true then Option.bind (catS (⟨#[34]⟩ : ByteArray) x) fun x150 => Option.bind (catS x150 (⟨#[34]⟩ : ByteArray)) fun x151 => some x151 else Option.bind (if (p.kind == 2) = true then Option.bind (catS x (⟨#[42]⟩ : ByteArray)) fun x160 => some x160 else some x) fun s154 => some s154) fun s144 => some s144) = some y ∧ y = (if p.kind = 1 then ((⟨#[34]⟩ : ByteArray) ++ x) ++ ⟨#[34]⟩ else if p.kind = 2 then x ++ ⟨#[42]⟩ else x) ∧ y.size ≤ 1099600000010 := by
  by_cases k1 : p.kind = 1
  ·rw [if_pos (by simpa using k1), if_pos k1, e1.1, Option.bind_some, e2.1]
   exact ⟨_, rfl, rfl, by omega⟩
  ·rw [if_neg (by simpa using k1), if_neg k1]
   by_cases k2 : p.kind = 2
   ·rw [if_pos (by simpa using k2), if_pos k2, e3.1]
    exact ⟨_, rfl, rfl, by omega⟩
   ·rw [if_neg (by simpa using k2), if_neg k2]
    exact ⟨_, rfl, rfl, by omega⟩
 obtain ⟨y, hy, hy2, hy3⟩ := hx
 rw [hy, Option.bind_some]
 simp only
 rw [← hy2]
 have e4 := cat_val (⟨#[45]⟩ : ByteArray) y (by rw [s1]; omega) (by omega)
 rw [s1] at e4
 by_cases hn : p.not_ = true
 ·rw [if_pos hn, if_pos hn, e4.1, Option.bind_some, Option.bind_some, append_some (by simp; omega)]
  exact ⟨rfl, by omega⟩
 ·rw [if_neg hn, if_neg hn, Option.bind_some, append_some (by simp; omega)]
  exact ⟨rfl, by omega⟩
def sizesOk (q : know_Query) : Prop := ∀ p ∈ q.parts, (∀ w ∈ p.words, w.size ≤ 1048576) ∧ p.words.length ≤ 1048576
theorem parts_loop (q : know_Query) (h20 : q.parts.length ≤ 20) (hq : sizesOk q) (B : know_Part → Bool) (hB : ∀ p, B p = badP p) (W : ByteArray → Option (List ByteArray)) (hW : ∀ w : ByteArray, w.size ≤ 8796093022208 → W w = some (wordsL w.data.toList)) :
  ∃ r, rangeB (fun k21 s29 => Option.bind (idx q.parts (k21 : Int)) fun x44 => if B x44 = true then some (.rt ((⟨#[]⟩ : ByteArray), (1 : Int))) else Option.bind (rangeB (fun k86 _ => Option.bind (idx x44.words (k86 : Int)) fun x105 => Option.bind (W x105) fun x109 => Option.bind (if ((x109.length : Int) != 1) = true then (some true) else (Option.bind (idx x109 0) fun x119 => some (!(strEq x119 x105)))) fun s118 => if s118 = true then some (.rt ((⟨#[]⟩ : ByteArray), (1 : Int))) else some (.nx ())) x44.words.length 0 ()) fun o83 => o83.andThen (fun y => some (.rt y)) fun s84 => Option.bind (strings_Join x44.words (⟨#[32]⟩ : ByteArray)) fun x132 => Option.bind (Option.bind (if (x44.kind == 1) = true then Option.bind (catS (⟨#[34]⟩ : ByteArray) x132) fun x150 => Option.bind (catS x150 (⟨#[34]⟩ : ByteArray)) fun x151 => some x151 else Option.bind (if (x44.kind == 2) = true then Option.bind (catS x132 (⟨#[42]⟩ : ByteArray)) fun x160 => some x160 else some x132) fun s154 => some s154) fun s144 => some s144) fun s138 => Option.bind (if x44.not_ = true then Option.bind (catS (⟨#[45]⟩ : ByteArray) s138) fun x173 => some x173 else some s138) fun s167 => Option.bind (appendL 8796093022208 s29 ([s167] : List ByteArray)) fun x181 => some (.nx x181)) q.parts.length 0 ([] : (List ByteArray)) = some r ∧ rangeB (roundW q.parts) q.parts.length 0 [] = some r ∧ (∀ t, r = .fin t → t.length ≤ 20 ∧ ∀ x ∈ t, x.size ≤ 1099700000000) := by
 generalize hbody : (fun (k21 : Nat) (s29 : List ByteArray) => _) = body
 suffices hx : (∃ r, rangeB body q.parts.length 0 ([] : List ByteArray) = some (.rt r) ∧ rangeB (roundW q.parts) q.parts.length 0 [] = some (.rt r) ∧ True) ∨ ∃ t t', rangeB body q.parts.length 0 ([] : List ByteArray) = some (.fin t) ∧ rangeB (roundW q.parts) q.parts.length 0 [] = some (.fin t') ∧ (t = t' ∧ t.length ≤ q.parts.length ∧ ∀ x ∈ t, x.size ≤ 1099700000000) by
  rcases hx with ⟨r, h1, h2, _⟩ | ⟨t, t', h1, h2, rfl, h3, h4⟩
  ·exact ⟨_, h1, h2, fun t h => by cases h⟩
  ·exact ⟨_, h1, h2, fun t h => by cases h; exact ⟨by omega, h4⟩⟩
 refine rangeB_sim q.parts.length (fun _ => True) (fun k (s s' : List ByteArray) => s = s' ∧ s.length ≤ k ∧ ∀ x ∈ s, x.size ≤ 1099700000000) ⟨rfl, by simp, by simp⟩ ?_
 rintro k s _ hk ⟨rfl, h1, h2⟩
 subst hbody
 simp only
 have hm := List.getElem_mem hk
 obtain ⟨hp1, hp2⟩ := hq _ hm
 unfold roundW
 rw [idx_lt _ _ hk]
 generalize q.parts[k] = p at hp1 hp2
 rw [Option.bind_some, Option.bind_some, hB]
 by_cases hb : badP p = true
 ·rw [if_pos hb, if_pos hb]
  exact .inl ⟨_, rfl, rfl, trivial⟩
 rw [if_neg hb, if_neg hb, words_any W p.words fun w hw => hW w (by have := hp1 w hw; omega), Option.bind_some]
 by_cases ha : p.words.any badW = true
 ·rw [if_pos ha, if_pos ha]
  exact .inl ⟨_, rfl, rfl, trivial⟩
 rw [if_neg ha, if_neg ha, Lp.andThen_fin]
 obtain ⟨e1, e2⟩ := tail_val p hp1 hp2 s (by omega)
 refine .inr ⟨_, _, e1, rfl, rfl, by simp; omega, ?_⟩
 intro x hx
 rcases List.mem_append.1 hx with h | h
 ·exact h2 x h
 ·rw [List.mem_singleton.1 h]; exact e2
theorem roundW_ok (l : List know_Part) {o : Lp (List ByteArray) (ByteArray × Int)} (h : rangeB (roundW l) l.length 0 [] = some o) : o = .rt (⟨#[]⟩, 1) ∨ ∀ p ∈ l, badP p = false ∧ p.words.any badW = false := by
 obtain ⟨o', ho, hq⟩ := rangeB_spec (body := roundW l) l.length (fun k _ => ∀ j p, j < k → l[j]? = some p → badP p = false ∧ p.words.any badW = false) (fun o => o = .rt (⟨#[]⟩, 1) ∨ ∀ p ∈ l, badP p = false ∧ p.words.any badW = false) (s := []) (fun j p hj => by omega) (by
  intro k s hk hI
  unfold roundW
  have hpk : l[k]? = some l[k] := List.getElem?_eq_getElem hk
  rw [idx_lt _ _ hk]
  generalize l[k] = p at hpk
  rw [Option.bind_some]
  cases hb : badP p with
  | true => exact ⟨_, rfl, Or.inl rfl⟩
  | false =>
   cases ha : p.words.any badW with
   | true => exact ⟨_, rfl, Or.inl rfl⟩
   | false =>
    refine ⟨_, rfl, fun j u hj hu => ?_⟩
    rcases Nat.lt_or_eq_of_le (Nat.le_of_lt_succ hj) with h | rfl
    ·exact hI j u h hu
    ·rw [hpk] at hu; cases hu; exact ⟨hb, ha⟩) (fun s hI => Or.inr fun p hp => by
  obtain ⟨j, hj⟩ := List.mem_iff_getElem?.1 hp
  exact hI j p (List.getElem?_eq_some_iff.1 hj).1 hj)
 rw [h] at ho
 cases ho
 exact hq
theorem query_eq (q : know_Query) (hok : sizesOk q) : ∃ r, know_QueryText q = some r ∧ portref2_QueryFault q = some r ∧ (r.2 = 0 → q.parts.length ≤ 20 ∧ ∀ p ∈ q.parts, badP p = false ∧ p.words.any badW = false) := by
 unfold know_QueryText portref2_QueryFault
 by_cases h : 20 < q.parts.length
 ·rw [if_pos (by simp; omega), if_pos (by simp; omega)]
  exact ⟨_, rfl, rfl, fun h => absurd h (by decide)⟩
 rw [if_neg (by simp; omega), if_neg (by simp; omega)]
 obtain ⟨r1, a1, a2, a3⟩ := parts_loop q (by omega) hok _ badP_prog know_Words know_Words_val
 obtain ⟨r2, b1, b2, _⟩ := parts_loop q (by omega) hok badP (fun _ => rfl) portref2_WordsOf portref2_WordsOf_val
 obtain rfl : r1 = r2 := Option.some.inj (a2.symm.trans b2)
 have b1' := b1
 unfold badP at b1'
 rw [a1, b1']
 simp only [Option.bind_some]
 rcases r1 with t | r
 ·obtain ⟨h1, h2⟩ := a3 t rfl
  have hgood := (roundW_ok q.parts (o := .fin t) a2).resolve_left (fun h => by cases h)
  simp only [Lp.andThen_fin]
  have : (1099700000000 + 1) * t.length ≤ 21994000000020 := by
   have := Nat.mul_le_mul_left (1099700000000 + 1) h1
   omega
  rw [join_some 1099700000000 1 t _ h2 (by decide) (by omega) (by omega)]
  simp only [Option.bind_some]
  split
  ·exact ⟨_, rfl, rfl, fun h => absurd h (by decide)⟩
  ·exact ⟨_, rfl, rfl, fun _ => ⟨by omega, hgood⟩⟩
 ·have hr := (roundW_ok q.parts (o := .rt r) a2)
  rcases hr with hr | hr
  ·cases hr
   exact ⟨_, rfl, rfl, fun h => absurd h (by decide)⟩
  ·exact ⟨_, rfl, rfl, fun h => ⟨by omega, hr⟩⟩
end Go.Proofs.YtjdjmddclfhpeaaGreatDoor.M
namespace Go.Proofs.YtjdjmddclfhpeaaGreatDoor.M
open Go Go.Pu
set_option linter.unusedSimpArgs false
set_option linter.unusedVariables false
noncomputable def stemV (w : ByteArray) : ByteArray := (know_Stem w).getD w
theorem stem_val (w : ByteArray) (hw : w.size ≤ 1000000000000) : know_Stem w = some (stemV w) ∧ portref2_StemOf w = some (stemV w) := by
 obtain ⟨r, h1, h2⟩ := stem_eq w hw
 unfold stemV
 rw [h1, h2]
 exact ⟨rfl, rfl⟩
theorem terms_nodup {x : know_Index} (hx : IndexOk x) : x.terms.Nodup := by
 rw [List.Nodup, List.pairwise_iff_getElem]
 intro i j hi hj hij h
 have := hx.words i j _ _ hij (List.getElem?_eq_getElem hi) (List.getElem?_eq_getElem hj)
 rw [h, cmpS_self] at this
 cases this
theorem named_mem {x : know_Index} (hx : IndexOk x) (hs : Small x) (ws : List ByteArray) (hw : ∀ w ∈ ws, w.size ≤ 30) (hn : ws.length ≤ 1048576) :
  ∃ L m, rangeB (R := List know_Term) (fun k142 s150 => Option.bind (Option.bind (idx ws (k142 : Int)) fun x175 => Option.bind (know_Stem x175) fun x179 => Option.bind (know_Index_term x x179) fun x187 => Option.bind (if (x187.2 && (!((mapGet s150.2 x179).getD false))) = true then Option.bind (appendL 3518437208883 s150.1 ([x187.1] : List know_Term)) fun x231 => some (x231, (mapPut s150.2 x179 true)) else some (s150.1, s150.2)) fun s207 => some (s207.1, s207.2)) fun s166 => some (.nx (s166.1, s166.2))) ws.length 0 (([] : (List know_Term)), ([] : List (ByteArray × Bool))) = some (.fin (L, m)) ∧ L.Nodup ∧ ∀ t, t ∈ L ↔ t ∈ x.terms ∧ ∃ w ∈ ws, t.word = stemV w := by
 obtain ⟨⟨L, m⟩, h, h1, h2, _⟩ := rangeB_inv (R := List know_Term) (b := fun k142 s150 => Option.bind (Option.bind (idx ws (k142 : Int)) fun x175 => Option.bind (know_Stem x175) fun x179 => Option.bind (know_Index_term x x179) fun x187 => Option.bind (if (x187.2 && (!((mapGet s150.2 x179).getD false))) = true then Option.bind (appendL 3518437208883 s150.1 ([x187.1] : List know_Term)) fun x231 => some (x231, (mapPut s150.2 x179 true)) else some (s150.1, s150.2)) fun s207 => some (s207.1, s207.2)) fun s166 => some (.nx (s166.1, s166.2))) ws.length (fun k s => s.1.Nodup ∧ (∀ t, t ∈ s.1 ↔ t ∈ x.terms ∧ ∃ w ∈ ws.take k, t.word = stemV w) ∧ (∀ y, (mapGet s.2 y).getD false = true ↔ ∃ t ∈ s.1, t.word = y) ∧ s.1.length ≤ k) (s := (([] : (List know_Term)), ([] : List (ByteArray × Bool)))) ⟨List.nodup_nil, fun t => by simp, fun y => by simp [mapGet], Nat.le_refl _⟩ (by
  rintro k ⟨L, m⟩ hk ⟨i1, i2, i3, i4⟩
  simp only at i1 i2 i3 i4
  have hwk := hw _ (List.getElem_mem hk)
  have htk : ws.take (k + 1) = ws.take k ++ [ws[k]] := by rw [List.take_add_one, List.getElem?_eq_getElem hk]; rfl
  rw [idx_lt _ _ hk, htk]
  generalize ws[k] = w at hwk
  obtain ⟨y1, _⟩ := stem_val w (by omega)
  generalize hy : stemV w = y at y1
  obtain ⟨r, r1, _, r3, r4⟩ := find_term hx hs y
  have hmem : ∀ t, (t ∈ x.terms ∧ ∃ w' ∈ ws.take k ++ [w], t.word = stemV w') ↔ t ∈ L ∨ (t ∈ x.terms ∧ t.word = y) := fun t => by
   rw [i2 t]
   constructor
   ·rintro ⟨h1, w', h2, h3⟩
    rcases List.mem_append.1 h2 with h | h
    ·exact Or.inl ⟨h1, w', h, h3⟩
    ·rw [List.mem_singleton] at h
     subst h
     exact Or.inr ⟨h1, by rw [h3, hy]⟩
   ·rintro (⟨h1, w', h2, h3⟩ | ⟨h1, h2⟩)
    ·exact ⟨h1, w', List.mem_append_left _ h2, h3⟩
    ·exact ⟨h1, w, by simp, by rw [h2, hy]⟩
  simp only [Option.bind_some, y1, r1]
  cases hr : r.2 with
  | false =>
   refine ⟨(L, m), rfl, i1, fun t => ?_, i3, by simp only; omega⟩
   rw [hmem]
   exact ⟨Or.inl, fun h => h.elim id fun h => absurd h.2 ((r4 hr).2 t h.1)⟩
  | true =>
   obtain ⟨q1, q2⟩ := r3 hr
   cases hm : (mapGet m y).getD false with
   | true =>
    refine ⟨(L, m), rfl, i1, fun t => ?_, i3, by simp only; omega⟩
    rw [hmem]
    obtain ⟨u, u1, u2⟩ := (i3 y).1 hm
    exact ⟨Or.inl, fun h => h.elim id fun h => by rw [same_word hx h.1 ((i2 u).1 u1).1 (by rw [h.2, u2])]; exact u1⟩
   | false =>
    have hnot : ∀ t ∈ L, t.word ≠ y := fun t ht h => by
     rw [(i3 y).2 ⟨t, ht, h⟩] at hm
     cases hm
    refine ⟨(L ++ [r.1], mapPut m y true), ?_, ?_, fun t => ?_, fun z => ?_, ?_⟩
    ·simp only [Bool.not_false, Bool.and_self, if_true, appendL]
     rw [if_pos (by rw [List.length_singleton]; omega)]
     rfl
    ·rw [List.nodup_append]
     refine ⟨i1, by simp, fun a ha b hb => ?_⟩
     rw [List.mem_singleton] at hb
     subst hb
     exact fun h => hnot a ha (by rw [h]; exact q2)
    ·rw [hmem, List.mem_append, List.mem_singleton]
     exact ⟨fun h => h.imp id fun h => by subst h; exact ⟨q1, q2⟩, fun h => h.imp id fun h => same_word hx h.1 q1 (by rw [h.2, q2])⟩
    ·rw [mapGet_put2]
     by_cases hyz : y = z
     ·rw [if_pos hyz]
      subst hyz
      exact ⟨fun _ => ⟨r.1, by simp, q2⟩, fun _ => rfl⟩
     ·rw [if_neg hyz, i3 z]
      constructor
      ·rintro ⟨t, h1, h2⟩
       exact ⟨t, List.mem_append_left _ h1, h2⟩
      ·rintro ⟨t, h1, h2⟩
       rcases List.mem_append.1 h1 with h | h
       ·exact ⟨t, h, h2⟩
       ·rw [List.mem_singleton] at h
        subst h
        exact absurd (q2.symm.trans h2) hyz
    ·rw [List.length_append, List.length_singleton]; omega)
 rw [List.take_length] at h2
 exact ⟨L, m, h, h1, h2⟩
theorem pre_some (s w : ByteArray) : ∃ b, strings_HasPrefix s w = some b := by
 unfold strings_HasPrefix internal_stringslite_HasPrefix
 by_cases h : (w.size : Int) ≤ (s.size : Int)
 ·rw [if_pos (by simpa using h)]
  have := sliceS_nat s 0 w.size (Nat.zero_le _) (by omega)
  have e : sliceS s none (some (w.size : Int)) = some (s.extract 0 w.size) := by
   rw [← this]
   unfold sliceS bounds
   simp
  rw [e]
  exact ⟨_, rfl⟩
 ·rw [if_neg (by simpa using h)]
  exact ⟨_, rfl⟩
noncomputable def pre (s w : ByteArray) : Bool := (strings_HasPrefix s w).getD false
theorem pre_val (s w : ByteArray) : strings_HasPrefix s w = some (pre s w) := by
 obtain ⟨b, h⟩ := pre_some s w
 unfold pre
 rw [h]
 rfl
theorem containsS_val (s : List ByteArray) (f : ByteArray → Option Bool) (q : ByteArray → Bool) (hf : ∀ x ∈ s, f x = some (q x)) : slices_ContainsFunc_Lstring_string s f = some (s.any q) := by
 unfold slices_ContainsFunc_Lstring_string slices_IndexFunc_Lstring_string
 obtain ⟨o, ho, hq⟩ := rangeB_spec (R := Int) (body := fun k6 (_ : Unit) => Option.bind (idx s (k6 : Int)) fun x25 => Option.bind (f x25) fun x30 => if x30 = true then some (.rt (k6 : Int)) else some (.nx ())) s.length (fun k _ => ∀ j x, j < k → s[j]? = some x → q x = false) (fun o => (∃ k : Nat, o = .rt (k : Int) ∧ s.any q = true) ∨ o = .fin () ∧ s.any q = false) (s := ()) (fun j x h => by omega) (by
  intro k _ hk hI
  have hx : s[k]? = some s[k] := List.getElem?_eq_getElem hk
  rw [idx_lt s k hk, Option.bind_some, hf _ (List.getElem_mem hk), Option.bind_some]
  cases hq : q s[k] with
  | true => exact ⟨_, rfl, Or.inl ⟨k, rfl, List.any_eq_true.2 ⟨_, List.getElem_mem hk, hq⟩⟩⟩
  | false =>
   refine ⟨_, rfl, fun j x hj hjx => ?_⟩
   rcases Nat.lt_or_eq_of_le (Nat.le_of_lt_succ hj) with h | rfl
   ·exact hI j x h hjx
   ·rw [hx] at hjx; cases hjx; exact hq) (fun _ hI => Or.inr ⟨rfl, by
  rw [List.any_eq_false]
  intro x hx
  obtain ⟨j, hj⟩ := List.mem_iff_getElem?.1 hx
  rw [hI j x (List.getElem?_eq_some_iff.1 hj).1 hj]
  exact Bool.false_ne_true⟩)
 rw [ho]
 rcases hq with ⟨k, rfl, h⟩ | ⟨rfl, h⟩
 ·rw [h]; simp [Lp.andThen]
 ·rw [h]; rfl
theorem containsT_val (s : List know_Term) (f : know_Term → Option Bool) (q : know_Term → Bool) (hf : ∀ x ∈ s, f x = some (q x)) : slices_ContainsFunc_Lknow_Term_know_Term s f = some (s.any q) := by
 unfold slices_ContainsFunc_Lknow_Term_know_Term slices_IndexFunc_Lknow_Term_know_Term
 obtain ⟨o, ho, hq⟩ := rangeB_spec (R := Int) (body := fun k6 (_ : Unit) => Option.bind (idx s (k6 : Int)) fun x25 => Option.bind (f x25) fun x30 => if x30 = true then some (.rt (k6 : Int)) else some (.nx ())) s.length (fun k _ => ∀ j x, j < k → s[j]? = some x → q x = false) (fun o => (∃ k : Nat, o = .rt (k : Int) ∧ s.any q = true) ∨ o = .fin () ∧ s.any q = false) (s := ()) (fun j x h => by omega) (by
  intro k _ hk hI
  have hx : s[k]? = some s[k] := List.getElem?_eq_getElem hk
  rw [idx_lt s k hk, Option.bind_some, hf _ (List.getElem_mem hk), Option.bind_some]
  cases hq : q s[k] with
  | true => exact ⟨_, rfl, Or.inl ⟨k, rfl, List.any_eq_true.2 ⟨_, List.getElem_mem hk, hq⟩⟩⟩
  | false =>
   refine ⟨_, rfl, fun j x hj hjx => ?_⟩
   rcases Nat.lt_or_eq_of_le (Nat.le_of_lt_succ hj) with h | rfl
   ·exact hI j x h hjx
   ·rw [hx] at hjx; cases hjx; exact hq) (fun _ hI => Or.inr ⟨rfl, by
  rw [List.any_eq_false]
  intro x hx
  obtain ⟨j, hj⟩ := List.mem_iff_getElem?.1 hx
  rw [hI j x (List.getElem?_eq_some_iff.1 hj).1 hj]
  exact Bool.false_ne_true⟩)
 rw [ho]
 rcases hq with ⟨k, rfl, h⟩ | ⟨rfl, h⟩
 ·rw [h]; simp [Lp.andThen]
 ·rw [h]; rfl
theorem filter_loop {α R : Type} (l : List α) (q : α → Bool) (lim : Nat) (hl : l.length ≤ lim) (body : Nat → List α → Option (Ctl (List α) R)) (hbody : ∀ (k : Nat) (x : α) (s : List α), l[k]? = some x → body k s = if q x = true then Option.bind (appendL lim s [x]) (fun y => some (.nx y)) else some (.nx s)) : rangeB body l.length 0 [] = some (.fin (l.filter q)) := by
 obtain ⟨t, h, rfl⟩ := rangeB_inv (b := body) l.length (fun k s => s = (l.take k).filter q) (s := []) (by simp) (by
  rintro k s hk rfl
  have hx : l[k]? = some l[k] := List.getElem?_eq_getElem hk
  have htk : l.take (k + 1) = l.take k ++ [l[k]] := by rw [List.take_add_one, hx]; rfl
  rw [hbody k _ _ hx, htk, List.filter_append]
  have hle : ((l.take k).filter q).length ≤ k := Nat.le_trans (List.length_filter_le _ _) (by rw [List.length_take]; omega)
  cases hq : q l[k] with
  | true =>
   rw [if_pos rfl]
   unfold appendL
   rw [if_pos (by rw [List.length_singleton]; omega)]
   exact ⟨_, rfl, by rw [List.filter_cons_of_pos hq, List.filter_nil]⟩
  | false =>
   rw [if_neg (by decide)]
   exact ⟨_, rfl, by rw [List.filter_cons_of_neg (by rw [hq]; decide), List.filter_nil, List.append_nil]⟩)
 rw [h, List.take_length]
structure PartOk (p : know_Part) : Prop where
 kind : 0 ≤ p.kind ∧ p.kind ≤ 2
 words : 1 ≤ p.words.length
 one : p.kind ≠ 1 → p.words.length = 1
 size : ∀ w ∈ p.words, w.size ≤ 30
 len : p.words.length ≤ 1048576
theorem part_ok {p : know_Part} (h1 : badP p = false) (h2 : p.words.any badW = false) (hl : p.words.length ≤ 1048576) : PartOk p := by
 unfold badP at h1
 simp only [Bool.or_eq_false_iff, Bool.and_eq_false_iff, decide_eq_false_iff_not, beq_eq_false_iff_ne, bne_eq_false_iff_eq] at h1
 refine ⟨by omega, by omega, fun h => by omega, fun w hw => ?_, hl⟩
 have := (List.any_eq_false.1 h2) w hw
 rw [Bool.not_eq_true] at this
 unfold badW at this
 rw [Bool.or_eq_false_iff, Bool.not_eq_false', strEq_cmp, decide_eq_true_eq] at this
 rw [← this.2]
 cases hws : wordsL w.data.toList with
 | nil => rw [hws] at this; simp at this
 | cons a l => exact wordsF_size _ _ a (by unfold wordsL at hws; rw [hws]; exact List.mem_cons_self ..)
theorem terms_of {x : know_Index} (hx : IndexOk x) (hs : Small x) {p : know_Part} (hp : PartOk p) : ∃ N T, know_Index_named x p = some N ∧ portref2_termsOf x p = some T ∧ N.Perm T ∧ ∀ t ∈ N, t ∈ x.terms := by
 have htl := hs.terms
 have hT : portref2_termsOf x p = some (x.terms.filter fun t => p.words.any fun w => if p.kind = 2 then pre t.word w else decide (t.word = stemV w)) := by
  unfold portref2_termsOf
  rw [filter_loop (R := List know_Term) x.terms (fun t => p.words.any fun w => if p.kind = 2 then pre t.word w else decide (t.word = stemV w)) 3518437208883 (by omega)]
  ·rfl
  intro k t s ht
  rw [idx_nat, ht, Option.bind_some]
  have hc : slices_ContainsFunc_Lstring_string p.words (fun y84 => portref2_termsOf_1 y84 p t) = some (p.words.any fun w => if p.kind = 2 then pre t.word w else decide (t.word = stemV w)) := by
   refine containsS_val _ _ _ fun w hw => ?_
   unfold portref2_termsOf_1
   by_cases h2 : p.kind = 2
   ·rw [if_pos (by simpa using h2), pre_val, if_pos h2]; rfl
   ·rw [if_neg (by simpa using h2), (stem_val w (by have := hp.size w hw; omega)).2, if_neg h2, Option.bind_some, strEq_cmp]
  rw [hc, Option.bind_some]
  cases (p.words.any fun w => if p.kind = 2 then pre t.word w else decide (t.word = stemV w)) with
  | false => rfl
  | true =>
   simp only [if_true]
   cases appendL 3518437208883 s [t] <;> rfl
 by_cases h2 : p.kind = 2
 ·have h1 := hp.one (by omega)
  obtain ⟨w, hw⟩ := List.length_eq_one_iff.1 h1
  have e : (fun t : know_Term => p.words.any fun w => if p.kind = 2 then pre t.word w else decide (t.word = stemV w)) = fun t => pre t.word w := by
   funext t
   rw [hw]
   simp [h2]
  rw [e] at hT
  refine ⟨_, _, ?_, hT, .refl _, fun t ht => (List.mem_filter.1 ht).1⟩
  unfold know_Index_named
  rw [if_pos (by simpa using h2), filter_loop (R := List know_Term) x.terms (fun t => pre t.word w) 3518437208883 (by omega)]
  ·rfl
  intro k t s ht
  have e0 : idx ([w] : List ByteArray) 0 = some w := rfl
  rw [idx_nat, ht, Option.bind_some, hw, e0, Option.bind_some, pre_val, Option.bind_some]
  cases pre t.word w with
  | false => rfl
  | true =>
   simp only [if_true]
   cases appendL 3518437208883 s [t] <;> rfl
 ·obtain ⟨L, m, l1, l2, l3⟩ := named_mem hx hs p.words hp.size hp.len
  refine ⟨L, _, ?_, hT, ?_, fun t ht => ((l3 t).1 ht).1⟩
  ·unfold know_Index_named
   rw [if_neg (by simpa using h2), l1]
   rfl
  ·rw [List.perm_ext_iff_of_nodup l2 ((terms_nodup hx).sublist List.filter_sublist)]
   intro t
   rw [l3 t, List.mem_filter, List.any_eq_true]
   simp only [h2, if_false, decide_eq_true_eq]
end Go.Proofs.YtjdjmddclfhpeaaGreatDoor.M
namespace Go.Proofs.YtjdjmddclfhpeaaGreatDoor.M
open Go Go.Pu
set_option linter.unusedSimpArgs false
set_option linter.unusedVariables false
noncomputable def posV (x : know_Index) (id : Int) (b : Bool) (w : ByteArray) : List Int := (portref2_matches_2 w b x id).getD []
theorem word_post {x : know_Index} (hx : IndexOk x) (hs : Small x) (id : Int) (w : ByteArray) (hw : w.size ≤ 30) : ∃ r q, know_Stem w = some (stemV w) ∧ know_Index_term x (stemV w) = some r ∧ know_Term_posting r.1 id = some q ∧ (∀ b, portref2_matches_2 w b x id = some (posV x id b w)) ∧ q.1.title = posV x id true w ∧ q.1.body = posV x id false w ∧ (q.2 = false → ∀ b, posV x id b w = []) ∧ ∀ b, rising (posV x id b w) ∧ (posV x id b w).length ≤ 1048576 := by
 obtain ⟨s1, s2⟩ := stem_val w (by omega)
 obtain ⟨r, r1, r2, r3, r4⟩ := find_term hx hs (stemV w)
 have hpost : ∃ q, know_Term_posting r.1 id = some q ∧ portref2_postingOf r.1 id = some q ∧ (q.2 = false → q.1.title = [] ∧ q.1.body = []) ∧ (rising q.1.title ∧ q.1.title.length ≤ 1048576) ∧ rising q.1.body ∧ q.1.body.length ≤ 1048576 := by
  have hnil : rising [] := fun i j a b _ h => by simp at h
  cases hr : r.2 with
  | true =>
   have ht := (r3 hr).1
   obtain ⟨q, q1, q2, q3, q4⟩ := find_post (hx.terms _ ht).rise (hs.list _ ht) id
   refine ⟨q, q1, q2, fun h => ⟨(q4 h).1, (q4 h).2.1⟩, ?_⟩
   cases hq : q.2 with
   | true =>
    have hm := (q3 hq).1
    have h1 := (hx.terms _ ht).pos _ hm
    have h2 := hs.posts _ ht _ hm
    exact ⟨⟨h1.1.1, h2.1⟩, h1.2.1, h2.2⟩
   | false =>
    obtain ⟨h1, h2, _⟩ := q4 hq
    rw [h1, h2]
    exact ⟨⟨hnil, Nat.zero_le _⟩, hnil, Nat.zero_le _⟩
  | false =>
   have he := (r4 hr).1
   obtain ⟨q, q1, q2, q3, q4⟩ := find_post (t := r.1) (by rw [he]; intro i j p q _ h; simp at h) (by rw [he]; exact Nat.zero_le _) id
   have hq : q.2 = false := by
    rw [← Bool.not_eq_true]
    intro h
    have := (q3 h).1
    rw [he] at this
    cases this
   obtain ⟨h1, h2, _⟩ := q4 hq
   refine ⟨q, q1, q2, fun _ => ⟨h1, h2⟩, ?_⟩
   rw [h1, h2]
   exact ⟨⟨hnil, Nat.zero_le _⟩, hnil, Nat.zero_le _⟩
 obtain ⟨q, q1, q2, q3, q5, q6⟩ := hpost
 have hm : ∀ b, portref2_matches_2 w b x id = some (if b = true then q.1.title else q.1.body) := fun b => by
  unfold portref2_matches_2
  rw [s2, Option.bind_some, r2, Option.bind_some, q2, Option.bind_some]
  cases b <;> rfl
 have hv : ∀ b, posV x id b w = if b = true then q.1.title else q.1.body := fun b => by
  unfold posV
  rw [hm]
  rfl
 refine ⟨r, q, s1, r1, q1, fun b => by rw [hm, hv], (hv true).symm, (hv false).symm, fun h b => ?_, fun b => ?_⟩
 ·rw [hv]
  cases b
  ·exact (q3 h).2
  ·exact (q3 h).1
 ·rw [hv]
  cases b
  ·exact q6
  ·exact q5
def AllIn (ls : List (List Int)) (a : Int) : Prop := ∀ (j : Nat) (l : List Int), ls[j]? = some l → w64 (a + (j : Int)) ∈ l
def Fol (ls : List (List Int)) : Prop := ∃ l0, ls[0]? = some l0 ∧ ∃ a ∈ l0, AllIn ls a
theorem containsI_val (s : List Int) (f : Int → Option Bool) (q : Int → Bool) (hf : ∀ x ∈ s, f x = some (q x)) : slices_ContainsFunc_Lint_int s f = some (s.any q) := by
 unfold slices_ContainsFunc_Lint_int slices_IndexFunc_Lint_int
 obtain ⟨o, ho, hq⟩ := rangeB_spec (R := Int) (body := fun k6 (_ : Unit) => Option.bind (idx s (k6 : Int)) fun x25 => Option.bind (f x25) fun x30 => if x30 = true then some (.rt (k6 : Int)) else some (.nx ())) s.length (fun k _ => ∀ j x, j < k → s[j]? = some x → q x = false) (fun o => (∃ k : Nat, o = .rt (k : Int) ∧ s.any q = true) ∨ o = .fin () ∧ s.any q = false) (s := ()) (fun j x h => by omega) (by
  intro k _ hk hI
  have hx : s[k]? = some s[k] := List.getElem?_eq_getElem hk
  rw [idx_lt s k hk, Option.bind_some, hf _ (List.getElem_mem hk), Option.bind_some]
  cases hq : q s[k] with
  | true => exact ⟨_, rfl, Or.inl ⟨k, rfl, List.any_eq_true.2 ⟨_, List.getElem_mem hk, hq⟩⟩⟩
  | false =>
   refine ⟨_, rfl, fun j x hj hjx => ?_⟩
   rcases Nat.lt_or_eq_of_le (Nat.le_of_lt_succ hj) with h | rfl
   ·exact hI j x h hjx
   ·rw [hx] at hjx; cases hjx; exact hq) (fun _ hI => Or.inr ⟨rfl, by
  rw [List.any_eq_false]
  intro x hx
  obtain ⟨j, hj⟩ := List.mem_iff_getElem?.1 hx
  rw [hI j x (List.getElem?_eq_some_iff.1 hj).1 hj]
  exact Bool.false_ne_true⟩)
 rw [ho]
 rcases hq with ⟨k, rfl, h⟩ | ⟨rfl, h⟩
 ·rw [h]; simp [Lp.andThen]
 ·rw [h]; rfl
theorem containsV_val (s : List Int) (v : Int) : slices_Contains_Lint_int s v = some (decide (v ∈ s)) := by
 unfold slices_Contains_Lint_int slices_Index_Lint_int
 obtain ⟨o, ho, hq⟩ := rangeB_spec (R := Int) (body := fun k6 (_ : Unit) => Option.bind (idx s (k6 : Int)) fun x21 => if (v == x21) = true then some (.rt (k6 : Int)) else some (.nx ())) s.length (fun k _ => ∀ j x, j < k → s[j]? = some x → v ≠ x) (fun o => (∃ k : Nat, o = .rt (k : Int) ∧ v ∈ s) ∨ o = .fin () ∧ v ∉ s) (s := ()) (fun j x h => by omega) (by
  intro k _ hk hI
  have hx : s[k]? = some s[k] := List.getElem?_eq_getElem hk
  rw [idx_lt s k hk, Option.bind_some]
  by_cases hq : v = s[k]
  ·rw [if_pos (by simpa using hq)]
   exact ⟨_, rfl, Or.inl ⟨k, rfl, by rw [hq]; exact List.getElem_mem hk⟩⟩
  ·rw [if_neg (by simpa using hq)]
   refine ⟨_, rfl, fun j x hj hjx => ?_⟩
   rcases Nat.lt_or_eq_of_le (Nat.le_of_lt_succ hj) with h | rfl
   ·exact hI j x h hjx
   ·rw [hx] at hjx; cases hjx; exact hq) (fun _ hI => Or.inr ⟨rfl, fun hv => by
  obtain ⟨j, hj⟩ := List.mem_iff_getElem?.1 hv
  exact hI j v (List.getElem?_eq_some_iff.1 hj).1 hj rfl⟩)
 rw [ho]
 rcases hq with ⟨k, rfl, h⟩ | ⟨rfl, h⟩
 ·simp [Lp.andThen, h]
 ·simp [Lp.andThen, h]
open Classical in
theorem follow_at (ls : List (List Int)) (hls : ∀ l ∈ ls, rising l ∧ l.length ≤ 1048576) (a : Int) : know_Index_phrase_1_1 a ls = some (decide (AllIn ls a)) := by
 unfold know_Index_phrase_1_1
 obtain ⟨o, ho, hq⟩ := rangeB_spec (R := Bool) (body := fun k8 (_ : Unit) => Option.bind (idx ls (k8 : Int)) fun x26 => Option.bind (slices_BinarySearch_Lint_int x26 (w64 (a + (k8 : Int)))) fun x33 => if (!x33.2) = true then some (.rt false) else some (.nx ())) ls.length (fun k _ => ∀ (j : Nat) l, j < k → ls[j]? = some l → w64 (a + (j : Int)) ∈ l) (fun o => (o = .rt false ∧ ¬ AllIn ls a) ∨ (o = .fin () ∧ AllIn ls a)) (s := ()) (fun j l h => by omega) (by
  intro k _ hk hI
  have hx : ls[k]? = some ls[k] := List.getElem?_eq_getElem hk
  have hl := hls _ (List.getElem_mem hk)
  rw [idx_lt _ _ hk, Option.bind_some]
  generalize ls[k] = l at hx hl
  obtain ⟨p, b1, _, _⟩ := bsearch_val (l := l) (by omega) hl.1 (w64 (a + (k : Int)))
  rw [b1, Option.bind_some]
  by_cases hm : w64 (a + (k : Int)) ∈ l
  ·simp only [hm, decide_true, Bool.not_true, Bool.false_eq_true, if_false]
   refine ⟨_, rfl, fun j u hj hu => ?_⟩
   rcases Nat.lt_or_eq_of_le (Nat.le_of_lt_succ hj) with h | rfl
   ·exact hI j u h hu
   ·rw [hx] at hu; cases hu; exact hm
  ·simp only [hm, decide_false, Bool.not_false, if_true]
   exact ⟨_, rfl, Or.inl ⟨rfl, fun h => hm (h k l hx)⟩⟩) (fun _ hI => Or.inr ⟨rfl, fun j l h => hI j l (List.getElem?_eq_some_iff.1 h).1 h⟩)
 rw [ho]
 rcases hq with ⟨rfl, h⟩ | ⟨rfl, h⟩
 ·simp [Lp.andThen, h]
 ·simp [Lp.andThen, h]
open Classical in
theorem follow_val (ls : List (List Int)) (hls : ∀ l ∈ ls, rising l ∧ l.length ≤ 1048576) (hne : ls ≠ []) : know_Index_phrase_1 ls = some (decide (Fol ls)) := by
 unfold know_Index_phrase_1
 obtain ⟨l0, rest, rfl⟩ : ∃ l0 rest, ls = l0 :: rest := by cases ls with | nil => exact absurd rfl hne | cons a l => exact ⟨a, l, rfl⟩
 have e : idx (l0 :: rest) 0 = some l0 := rfl
 rw [e, Option.bind_some, containsI_val l0 _ (fun a => decide (AllIn (l0 :: rest) a)) (fun a _ => follow_at _ hls a), Option.bind_some]
 congr 1
 rw [Bool.eq_iff_iff, List.any_eq_true, decide_eq_true_eq]
 constructor
 ·rintro ⟨a, h1, h2⟩
  exact ⟨l0, rfl, a, h1, by simpa using h2⟩
 ·rintro ⟨l1, h1, a, h2, h3⟩
  cases h1
  exact ⟨a, h2, by simpa using h3⟩
open Classical in
theorem phrase_code {x : know_Index} (hx : IndexOk x) (hs : Small x) (id : Int) (ws : List ByteArray) (hw : ∀ w ∈ ws, w.size ≤ 30) (hn : ws.length ≤ 1048576) (hne : 1 ≤ ws.length) :
  know_Index_phrase x ws id = some (decide (Fol (ws.map (posV x id true)) ∨ Fol (ws.map (posV x id false)))) := by
 unfold know_Index_phrase
 have hgood : ∀ b, ∀ l ∈ ws.map (posV x id b), rising l ∧ l.length ≤ 1048576 := fun b l hl => by
  obtain ⟨w, hwm, rfl⟩ := List.mem_map.1 hl
  obtain ⟨_, _, _, _, _, _, _, _, _, h⟩ := word_post hx hs id w (hw w hwm)
  exact h b
 have hnn : ∀ b, ws.map (posV x id b) ≠ [] := fun b h => by
  have := congrArg List.length h
  simp at this
  rw [this] at hne
  simp at hne
 obtain ⟨o, ho, hq⟩ := rangeB_spec (R := Bool) (body := fun k18 s28 => Option.bind (idx ws (k18 : Int)) fun x45 => Option.bind (know_Stem x45) fun x148 => Option.bind (know_Index_term x x148) fun x237 => Option.bind (know_Term_posting x237.1 id) fun x262 => if (!x262.2) = true then some (.rt false) else Option.bind (appendL 5864062014805 s28.1 ([x262.1.title] : List (List Int))) fun x300 => Option.bind (appendL 5864062014805 s28.2 ([x262.1.body] : List (List Int))) fun x318 => some (.nx (x300, x318))) ws.length (fun k s => s = ((ws.take k).map (posV x id true), (ws.take k).map (posV x id false))) (fun o => (o = .rt false ∧ ∀ b, ¬ Fol (ws.map (posV x id b))) ∨ o = .fin (ws.map (posV x id true), ws.map (posV x id false))) (s := (([] : (List (List Int))), ([] : (List (List Int))))) (by simp) (by
  rintro k s hk rfl
  have hwk := hw _ (List.getElem_mem hk)
  have hgk : ws[k]? = some ws[k] := List.getElem?_eq_getElem hk
  have htk : ws.take (k + 1) = ws.take k ++ [ws[k]] := by rw [List.take_add_one, hgk]; rfl
  rw [idx_lt _ _ hk, htk]
  generalize ws[k] = w at hwk hgk
  obtain ⟨r, q, e1, e2, e3, e4, e5, e6, e7, e8⟩ := word_post hx hs id w hwk
  simp only [Option.bind_some, e1, e2, e3]
  cases hq : q.2 with
  | false =>
   refine ⟨_, rfl, Or.inl ⟨rfl, fun b => ?_⟩⟩
   rintro ⟨l0, h0, a, _, h⟩
   have := h k (posV x id b w) (by rw [List.getElem?_map, hgk]; rfl)
   rw [e7 hq b] at this
   cases this
  | true =>
   simp only [Bool.not_true, Bool.false_eq_true, if_false, appendL]
   rw [if_pos (by rw [List.length_singleton, List.length_map, List.length_take]; omega), Option.bind_some, if_pos (by rw [List.length_singleton, List.length_map, List.length_take]; omega), Option.bind_some]
   refine ⟨_, rfl, ?_⟩
   rw [List.map_append, List.map_append, e5, e6]
   rfl) (fun s hI => Or.inr (by rw [hI, List.take_length]))
 rw [ho]
 rcases hq with ⟨rfl, h⟩ | rfl
 ·simp [Lp.andThen, h]
 ·simp only [Option.bind_some, Lp.andThen_fin, follow_val _ (hgood true) (hnn true), follow_val _ (hgood false) (hnn false)]
  by_cases h1 : Fol (ws.map (posV x id true))
  ·simp [h1]
  ·simp [h1]
open Classical in
theorem phrase_in {x : know_Index} (hx : IndexOk x) (hs : Small x) (id : Int) (ws : List ByteArray) (hw : ∀ w ∈ ws, w.size ≤ 30) (b : Bool) (a : Int) :
  rangeB (R := Bool) (fun k148 s154 => Option.bind (idx ws (k148 : Int)) fun x167 => Option.bind (if s154 = true then (Option.bind (portref2_matches_2 x167 b x id) fun x180 => Option.bind (slices_Contains_Lint_int x180 (w64 (a + (k148 : Int)))) fun x186 => some x186) else (some false)) fun s172 => some (.nx s172)) ws.length 0 true = some (.fin (decide (AllIn (ws.map (posV x id b)) a))) := by
 obtain ⟨t, h, rfl⟩ := rangeB_inv (R := Bool) (b := fun k148 s154 => Option.bind (idx ws (k148 : Int)) fun x167 => Option.bind (if s154 = true then (Option.bind (portref2_matches_2 x167 b x id) fun x180 => Option.bind (slices_Contains_Lint_int x180 (w64 (a + (k148 : Int)))) fun x186 => some x186) else (some false)) fun s172 => some (.nx s172)) ws.length (fun k s => s = decide (∀ (j : Nat) w, j < k → ws[j]? = some w → w64 (a + (j : Int)) ∈ posV x id b w)) (s := true) (by simp) (by
  rintro k s hk rfl
  have hwk := hw _ (List.getElem_mem hk)
  have hgk : ws[k]? = some ws[k] := List.getElem?_eq_getElem hk
  rw [idx_lt _ _ hk]
  generalize ws[k] = w at hwk hgk
  obtain ⟨_, _, _, _, _, e4, _⟩ := word_post hx hs id w hwk
  simp only [Option.bind_some, e4, containsV_val]
  by_cases hI : ∀ (j : Nat) w, j < k → ws[j]? = some w → w64 (a + (j : Int)) ∈ posV x id b w
  ·rw [if_pos (by simpa using hI)]
   refine ⟨_, rfl, ?_⟩
   rw [Bool.eq_iff_iff, decide_eq_true_eq, decide_eq_true_eq]
   constructor
   ·intro hm j u hj hu
    rcases Nat.lt_or_eq_of_le (Nat.le_of_lt_succ hj) with h | rfl
    ·exact hI j u h hu
    ·rw [hgk] at hu; cases hu; exact hm
   ·intro h
    exact h k w (Nat.lt_succ_self _) hgk
  ·rw [if_neg (by simpa using hI)]
   refine ⟨_, rfl, ?_⟩
   rw [eq_comm, decide_eq_false_iff_not]
   exact fun h => hI fun j u hj hu => h j u (by omega) hu)
 rw [h]
 congr 2
 rw [Bool.eq_iff_iff, decide_eq_true_eq, decide_eq_true_eq]
 constructor
 ·intro h j l hl
  rw [List.getElem?_map] at hl
  obtain ⟨w, hw1, rfl⟩ := Option.map_eq_some_iff.1 hl
  exact h j w (List.getElem?_eq_some_iff.1 hw1).1 hw1
 ·intro h j w hj hw1
  exact h j _ (by rw [List.getElem?_map, hw1]; rfl)
open Classical in
theorem phrase_mid {x : know_Index} (hx : IndexOk x) (hs : Small x) (id : Int) (ws : List ByteArray) (hw : ∀ w ∈ ws, w.size ≤ 30) (b : Bool) (w0 : ByteArray) (h0 : ws[0]? = some w0) (l : List Int) (hl : l = posV x id b w0) :
  rangeB (R := Bool) (fun k118 (_ : Unit) => Option.bind (idx l (k118 : Int)) fun x137 => Option.bind (rangeB (fun k148 s154 => Option.bind (idx ws (k148 : Int)) fun x167 => Option.bind (if s154 = true then (Option.bind (portref2_matches_2 x167 b x id) fun x180 => Option.bind (slices_Contains_Lint_int x180 (w64 (x137 + (k148 : Int)))) fun x186 => some x186) else (some false)) fun s172 => some (.nx s172)) ws.length 0 true) fun o145 => o145.andThen (fun y => some (.rt y)) fun s146 => if s146 = true then some (.rt true) else some (.nx ())) l.length 0 () = some (if Fol (ws.map (posV x id b)) then .rt true else .fin ()) := by
 have hz : (ws.map (posV x id b))[0]? = some l := by rw [List.getElem?_map, h0, hl]; rfl
 obtain ⟨o, ho, hq⟩ := rangeB_spec (R := Bool) (body := fun k118 (_ : Unit) => Option.bind (idx l (k118 : Int)) fun x137 => Option.bind (rangeB (fun k148 s154 => Option.bind (idx ws (k148 : Int)) fun x167 => Option.bind (if s154 = true then (Option.bind (portref2_matches_2 x167 b x id) fun x180 => Option.bind (slices_Contains_Lint_int x180 (w64 (x137 + (k148 : Int)))) fun x186 => some x186) else (some false)) fun s172 => some (.nx s172)) ws.length 0 true) fun o145 => o145.andThen (fun y => some (.rt y)) fun s146 => if s146 = true then some (.rt true) else some (.nx ())) l.length (fun k _ => ∀ (j : Nat) a, j < k → l[j]? = some a → ¬ AllIn (ws.map (posV x id b)) a) (fun o => (o = .rt true ∧ Fol (ws.map (posV x id b))) ∨ (o = .fin () ∧ ¬ Fol (ws.map (posV x id b)))) (s := ()) (fun j a h => by omega) (by
  intro k _ hk hI
  have hgk : l[k]? = some l[k] := List.getElem?_eq_getElem hk
  rw [idx_lt _ _ hk, Option.bind_some]
  generalize l[k] = a at hgk
  rw [phrase_in hx hs id ws hw b a, Option.bind_some, Lp.andThen_fin]
  by_cases hA : AllIn (ws.map (posV x id b)) a
  ·rw [if_pos (by simpa using hA)]
   exact ⟨_, rfl, Or.inl ⟨rfl, l, hz, a, List.mem_of_getElem? hgk, hA⟩⟩
  ·rw [if_neg (by simpa using hA)]
   refine ⟨_, rfl, fun j u hj hu => ?_⟩
   rcases Nat.lt_or_eq_of_le (Nat.le_of_lt_succ hj) with h | rfl
   ·exact hI j u h hu
   ·rw [hgk] at hu; cases hu; exact hA) (fun _ hI => Or.inr ⟨rfl, by
  rintro ⟨l0, h1, a, h2, h3⟩
  rw [hz] at h1
  cases h1
  obtain ⟨j, hj⟩ := List.mem_iff_getElem?.1 h2
  exact hI j a (List.getElem?_eq_some_iff.1 hj).1 hj h3⟩)
 rw [ho]
 rcases hq with ⟨rfl, h⟩ | ⟨rfl, h⟩
 ·rw [if_pos h]
 ·rw [if_neg h]
open Classical in
theorem phrase_ref {x : know_Index} (hx : IndexOk x) (hs : Small x) (id : Int) (p : know_Part) (hp : PartOk p) (hk : p.kind = 1) :
  portref2_matches x p id = some (decide (Fol (p.words.map (posV x id true)) ∨ Fol (p.words.map (posV x id false)))) := by
 obtain ⟨kind, not_, ws⟩ := p
 simp only at hk ⊢
 subst hk
 have hws := hp.words
 have hsz := hp.size
 simp only at hws hsz
 obtain ⟨w0, rest, hcons⟩ : ∃ w0 rest, ws = w0 :: rest := by cases ws with | nil => simp at hws | cons a l => exact ⟨a, l, rfl⟩
 have h0 : ws[0]? = some w0 := by rw [hcons]; rfl
 have hi0 : idx ws 0 = some w0 := by rw [hcons]; rfl
 obtain ⟨_, _, _, _, _, e4, _⟩ := word_post hx hs id w0 (hsz w0 (by rw [hcons]; exact List.mem_cons_self ..))
 have hm := fun b => phrase_mid hx hs id ws hsz b w0 h0 _ rfl
 unfold portref2_matches
 rw [if_neg (show ¬ (((1 : Int) != 1) = true) by decide)]
 simp only
 have i0 : idx ([true, false] : List Bool) ((0 : Nat) : Int) = some true := rfl
 have i1 : idx ([true, false] : List Bool) ((0 + 1 : Nat) : Int) = some false := rfl
 have hlen : ([true, false] : List Bool).length = 2 := rfl
 rw [hlen]
 by_cases h1 : Fol (ws.map (posV x id true))
 ·have m1 := hm true
  rw [if_pos h1] at m1
  simp only [rangeB, i0, hi0, e4, Option.bind_some, m1, Lp.andThen_rt, h1, true_or, decide_true]
 ·have m1 := hm true
  rw [if_neg h1] at m1
  by_cases h2 : Fol (ws.map (posV x id false))
  ·have m2 := hm false
   rw [if_pos h2] at m2
   simp only [rangeB, i0, i1, hi0, e4, Option.bind_some, m1, m2, Lp.andThen_rt, Lp.andThen_fin, h1, h2, or_true, decide_true]
  ·have m2 := hm false
   rw [if_neg h2] at m2
   simp only [rangeB, i0, i1, hi0, e4, Option.bind_some, m1, m2, Lp.andThen_rt, Lp.andThen_fin, h1, h2, or_self, decide_false]
theorem matches_eq {x : know_Index} (hx : IndexOk x) (hs : Small x) {p : know_Part} (hp : PartOk p) {N : List know_Term} (hN : know_Index_named x p = some N) (id : Int) : ∃ b, know_Index_matches x p N id = some b ∧ portref2_matches x p id = some b := by
 by_cases hk : p.kind = 1
 ·refine ⟨_, ?_, phrase_ref hx hs id p hp hk⟩
  unfold know_Index_matches
  rw [if_pos (by simpa using hk), phrase_code hx hs id p.words hp.size hp.len hp.words]
  rfl
 ·obtain ⟨N', T, n1, n2, n3, n4⟩ := terms_of hx hs hp
  rw [hN] at n1
  cases n1
  have hf : ∀ t ∈ x.terms, ∃ b, know_Index_matches_1 t id = some b ∧ portref2_matches_1 t id = some b := fun t ht => by
   obtain ⟨q, q1, q2, _⟩ := find_post (hx.terms t ht).rise (hs.list t ht) id
   unfold know_Index_matches_1 portref2_matches_1
   rw [q1, q2]
   exact ⟨_, rfl, rfl⟩
  have hq : ∀ t ∈ x.terms, know_Index_matches_1 t id = some ((know_Index_matches_1 t id).getD false) ∧ portref2_matches_1 t id = some ((know_Index_matches_1 t id).getD false) := fun t ht => by
   obtain ⟨b, h1, h2⟩ := hf t ht
   rw [h1, h2]
   exact ⟨rfl, rfl⟩
  have hT : ∀ t ∈ T, t ∈ x.terms := fun t ht => n4 t (n3.mem_iff.2 ht)
  refine ⟨N.any fun t => (know_Index_matches_1 t id).getD false, ?_, ?_⟩
  ·unfold know_Index_matches
   rw [if_neg (by simpa using hk), containsT_val N _ (fun t => (know_Index_matches_1 t id).getD false) (fun t ht => (hq t (n4 t ht)).1)]
   rfl
  ·unfold portref2_matches
   rw [if_pos (by simpa using hk), n2, Option.bind_some, containsT_val T _ (fun t => (know_Index_matches_1 t id).getD false) (fun t ht => (hq t (hT t ht)).2), Option.bind_some, n3.any_eq]
end Go.Proofs.YtjdjmddclfhpeaaGreatDoor.M
namespace Go.Proofs.YtjdjmddclfhpeaaGreatDoor.M
open Go Go.Pu
set_option linter.unusedSimpArgs false
set_option linter.unusedVariables false
theorem w64_w64 (a b : Int) : w64 (w64 a + b) = w64 (a + b) := by
 simp only [w64, IntKind.wrap, IntKind.bits, IntKind.signed]
 simp
 omega
theorem w64_idem (a : Int) : w64 (w64 a) = w64 a := by
 have := w64_w64 a 0
 rwa [Int.add_zero, Int.add_zero] at this
theorem fold_val {α : Type} (sc : α → Int) : ∀ (l : List α) (s : Int), w64 s = s → l.foldl (fun s t => w64 (s + sc t)) s = w64 (s + (l.map sc).sum)
 | [], s, h => by simp [h]
 | t :: l, s, h => by
  rw [List.foldl_cons, fold_val sc l _ (w64_idem _), w64_w64, List.map_cons, List.sum_cons, Int.add_assoc]
theorem sum_perm {α : Type} (f : α → Int) {l m : List α} (h : l.Perm m) : (l.map f).sum = (m.map f).sum := by
 induction h with
 | nil => rfl
 | cons x _ ih => rw [List.map_cons, List.map_cons, List.sum_cons, List.sum_cons, ih]
 | swap x y l => simp only [List.map_cons, List.sum_cons]; omega
 | trans _ _ h1 h2 => exact h1.trans h2
theorem containsP_val (s : List know_Part) (f : know_Part → Option Bool) (q : know_Part → Bool) (hf : ∀ x ∈ s, f x = some (q x)) : slices_ContainsFunc_Lknow_Part_know_Part s f = some (s.any q) := by
 unfold slices_ContainsFunc_Lknow_Part_know_Part slices_IndexFunc_Lknow_Part_know_Part
 obtain ⟨o, ho, hq⟩ := rangeB_spec (R := Int) (body := fun k6 (_ : Unit) => Option.bind (idx s (k6 : Int)) fun x25 => Option.bind (f x25) fun x30 => if x30 = true then some (.rt (k6 : Int)) else some (.nx ())) s.length (fun k _ => ∀ j x, j < k → s[j]? = some x → q x = false) (fun o => (∃ k : Nat, o = .rt (k : Int) ∧ s.any q = true) ∨ o = .fin () ∧ s.any q = false) (s := ()) (fun j x h => by omega) (by
  intro k _ hk hI
  have hx : s[k]? = some s[k] := List.getElem?_eq_getElem hk
  rw [idx_lt s k hk, Option.bind_some, hf _ (List.getElem_mem hk), Option.bind_some]
  cases hq : q s[k] with
  | true => exact ⟨_, rfl, Or.inl ⟨k, rfl, List.any_eq_true.2 ⟨_, List.getElem_mem hk, hq⟩⟩⟩
  | false =>
   refine ⟨_, rfl, fun j x hj hjx => ?_⟩
   rcases Nat.lt_or_eq_of_le (Nat.le_of_lt_succ hj) with h | rfl
   ·exact hI j x h hjx
   ·rw [hx] at hjx; cases hjx; exact hq) (fun _ hI => Or.inr ⟨rfl, by
  rw [List.any_eq_false]
  intro x hx
  obtain ⟨j, hj⟩ := List.mem_iff_getElem?.1 hx
  rw [hI j x (List.getElem?_eq_some_iff.1 hj).1 hj]
  exact Bool.false_ne_true⟩)
 rw [ho]
 rcases hq with ⟨k, rfl, h⟩ | ⟨rfl, h⟩
 ·rw [h]; simp [Lp.andThen]
 ·rw [h]; rfl
theorem sum_loops {x : know_Index} (hx : IndexOk x) (hs : Small x) (k : Nat) (id : Int) (hk : x.ids[k]? = some id) {N T : List know_Term} (hN : ∀ t ∈ N, t ∈ x.terms) (hp : N.Perm T) (s : Int) (h0 : w64 s = s) :
  ∃ v, rangeB (R := Empty) (fun k288 s294 => Option.bind (idx N (k288 : Int)) fun x307 => Option.bind (know_Index_score x x307 (k : Int)) fun x335 => some (.nx (w64 (s294 + x335)))) N.length 0 s = some (.fin v) ∧ rangeB (R := Empty) (fun k189 s195 => Option.bind (idx T (k189 : Int)) fun x208 => Option.bind (portref2_termScore x x208 id) fun x237 => some (.nx (⟨s195.id_, w64 (s195.score + x237)⟩ : know_Hit))) T.length 0 (⟨id, s⟩ : know_Hit) = some (.fin ⟨id, v⟩) ∧ w64 v = v := by
 have hv : ∀ t ∈ x.terms, know_Index_score x t (k : Int) = some ((know_Index_score x t (k : Int)).getD 0) ∧ portref2_termScore x t id = some ((know_Index_score x t (k : Int)).getD 0) := fun t ht => by
  obtain ⟨v, v1, v2⟩ := score_eq hx hs ht k id hk
  rw [v1, v2]
  exact ⟨rfl, rfl⟩
 generalize hsc : (fun t => (know_Index_score x t (k : Int)).getD 0) = sc at *
 have hv1 : ∀ t ∈ x.terms, know_Index_score x t (k : Int) = some (sc t) := fun t ht => by rw [(hv t ht).1, ← hsc]
 have hv2 : ∀ t ∈ x.terms, portref2_termScore x t id = some (sc t) := fun t ht => by rw [(hv t ht).2, ← hsc]
 obtain ⟨u, u1, rfl⟩ := rangeB_inv (R := Empty) (b := fun k288 s294 => Option.bind (idx N (k288 : Int)) fun x307 => Option.bind (know_Index_score x x307 (k : Int)) fun x335 => some (.nx (w64 (s294 + x335)))) N.length (fun j z => z = (N.take j).foldl (fun s t => w64 (s + sc t)) s) (s := s) rfl (by
  rintro j z hj rfl
  have hgj : N[j]? = some N[j] := List.getElem?_eq_getElem hj
  have htk : N.take (j + 1) = N.take j ++ [N[j]] := by rw [List.take_add_one, hgj]; rfl
  rw [idx_lt _ _ hj, Option.bind_some, hv1 _ (hN _ (List.getElem_mem hj)), Option.bind_some, htk, List.foldl_append]
  exact ⟨_, rfl, rfl⟩)
 obtain ⟨y, y1, rfl⟩ := rangeB_inv (R := Empty) (b := fun k189 s195 => Option.bind (idx T (k189 : Int)) fun x208 => Option.bind (portref2_termScore x x208 id) fun x237 => some (.nx (⟨s195.id_, w64 (s195.score + x237)⟩ : know_Hit))) T.length (fun j z => z = (⟨id, (T.take j).foldl (fun s t => w64 (s + sc t)) s⟩ : know_Hit)) (s := (⟨id, s⟩ : know_Hit)) rfl (by
  rintro j z hj rfl
  have hgj : T[j]? = some T[j] := List.getElem?_eq_getElem hj
  have htk : T.take (j + 1) = T.take j ++ [T[j]] := by rw [List.take_add_one, hgj]; rfl
  rw [idx_lt _ _ hj, Option.bind_some, hv2 _ (hN _ (hp.mem_iff.2 (List.getElem_mem hj))), Option.bind_some, htk, List.foldl_append]
  exact ⟨_, rfl, rfl⟩)
 rw [List.take_length] at u1 y1
 have e : T.foldl (fun s t => w64 (s + sc t)) s = N.foldl (fun s t => w64 (s + sc t)) s := by
  rw [fold_val sc T s h0, fold_val sc N s h0, sum_perm sc hp]
 rw [e] at y1
 refine ⟨_, u1, y1, ?_⟩
 rw [fold_val sc N s h0, w64_idem]
structure Asked (x : know_Index) (q : know_Query) (NL : List (List know_Term)) : Prop where
 ok : ∀ p ∈ q.parts, PartOk p
 len : NL.length = q.parts.length
 named : ∀ (j : Nat) p, q.parts[j]? = some p → ∃ N, NL[j]? = some N ∧ know_Index_named x p = some N
theorem named_list {x : know_Index} (hx : IndexOk x) (hs : Small x) (q : know_Query) (hq : ∀ p ∈ q.parts, PartOk p) (h20 : q.parts.length ≤ 20) :
  ∃ NL, rangeB (R := (List know_Hit) × Int) (fun k70 s78 => Option.bind (idx q.parts (k70 : Int)) fun x93 => Option.bind (know_Index_named x x93) fun x121 => Option.bind (appendL 5864062014805 s78 ([x121] : List (List know_Term))) fun x141 => some (.nx x141)) q.parts.length 0 ([] : (List (List know_Term))) = some (.fin NL) ∧ Asked x q NL := by
 obtain ⟨NL, h, h1, h2⟩ := rangeB_inv (R := (List know_Hit) × Int) (b := fun k70 s78 => Option.bind (idx q.parts (k70 : Int)) fun x93 => Option.bind (know_Index_named x x93) fun x121 => Option.bind (appendL 5864062014805 s78 ([x121] : List (List know_Term))) fun x141 => some (.nx x141)) q.parts.length (fun k s => s.length = k ∧ ∀ (j : Nat) p, j < k → q.parts[j]? = some p → ∃ N, s[j]? = some N ∧ know_Index_named x p = some N) (s := ([] : (List (List know_Term)))) ⟨rfl, fun j p h => by omega⟩ (by
  rintro k s hk ⟨i1, i2⟩
  have hgk : q.parts[k]? = some q.parts[k] := List.getElem?_eq_getElem hk
  obtain ⟨N, T, n1, _⟩ := terms_of hx hs (hq _ (List.getElem_mem hk))
  rw [idx_lt _ _ hk, Option.bind_some, n1, Option.bind_some]
  unfold appendL
  rw [if_pos (by rw [List.length_singleton]; omega), Option.bind_some]
  refine ⟨_, rfl, by rw [List.length_append, List.length_singleton, i1], fun j p hj hp => ?_⟩
  rcases Nat.lt_or_eq_of_le (Nat.le_of_lt_succ hj) with h | rfl
  ·obtain ⟨M, m1, m2⟩ := i2 j p h hp
   exact ⟨M, by rw [List.getElem?_append_left (by omega)]; exact m1, m2⟩
  ·rw [hgk] at hp; cases hp
   exact ⟨N, by rw [List.getElem?_append_right (by omega), i1, Nat.sub_self]; rfl, n1⟩)
 exact ⟨NL, h, hq, h1, fun j p hp => h2 j p (List.getElem?_eq_some_iff.1 hp).1 hp⟩
theorem entry_loops {x : know_Index} (hx : IndexOk x) (hs : Small x) {q : know_Query} {NL : List (List know_Term)} (hq : Asked x q NL) (k : Nat) (id : Int) (hk : x.ids[k]? = some id) :
  ∃ f v, rangeB (R := Empty) (fun k206 s212 => Option.bind (Option.bind (idx q.parts (k206 : Int)) fun x233 => Option.bind (if s212.1 = true then (Option.bind (idx NL (k206 : Int)) fun x263 => Option.bind (know_Index_matches x x233 x263 id) fun x270 => some (!(x270 == x233.not_))) else (some false)) fun s252 => if x233.not_ = true then some (s252, s212.2) else Option.bind (idx NL (k206 : Int)) fun x278 => Option.bind (rangeB (R := Empty) (fun k288 s294 => Option.bind (idx x278 (k288 : Int)) fun x307 => Option.bind (know_Index_score x x307 (k : Int)) fun x335 => some (.nx (w64 (s294 + x335)))) x278.length 0 s212.2) fun o285 => o285.andThen (fun y => y.elim) fun s286 => some (s252, s286)) fun s226 => some (.nx (s226.1, s226.2))) q.parts.length 0 (true, 0) = some (.fin (f, v)) ∧ rangeB (R := Empty) (fun k104 s110 => Option.bind (Option.bind (idx q.parts (k104 : Int)) fun x131 => Option.bind (if s110.1 = true then (Option.bind (portref2_matches x x131 id) fun x161 => some (!(x161 == x131.not_))) else (some false)) fun s150 => if x131.not_ = true then some (s150, s110.2.1, s110.2.2) else Option.bind (portref2_termsOf x x131) fun x179 => Option.bind (rangeB (R := Empty) (fun k189 s195 => Option.bind (idx x179 (k189 : Int)) fun x208 => Option.bind (portref2_termScore x x208 id) fun x237 => some (.nx (⟨s195.id_, w64 (s195.score + x237)⟩ : know_Hit))) x179.length 0 s110.2.2) fun o186 => o186.andThen (fun y => y.elim) fun s187 => some (s150, true, s187)) fun s124 => some (.nx (s124.1, s124.2.1, s124.2.2))) q.parts.length 0 (true, false, (⟨id, 0⟩ : know_Hit)) = some (.fin (f, q.parts.any (fun p => !p.not_), ⟨id, v⟩)) := by
 have key := rangeB_sim (R := Empty) (b := fun k206 s212 => Option.bind (Option.bind (idx q.parts (k206 : Int)) fun x233 => Option.bind (if s212.1 = true then (Option.bind (idx NL (k206 : Int)) fun x263 => Option.bind (know_Index_matches x x233 x263 id) fun x270 => some (!(x270 == x233.not_))) else (some false)) fun s252 => if x233.not_ = true then some (s252, s212.2) else Option.bind (idx NL (k206 : Int)) fun x278 => Option.bind (rangeB (R := Empty) (fun k288 s294 => Option.bind (idx x278 (k288 : Int)) fun x307 => Option.bind (know_Index_score x x307 (k : Int)) fun x335 => some (.nx (w64 (s294 + x335)))) x278.length 0 s212.2) fun o285 => o285.andThen (fun y => y.elim) fun s286 => some (s252, s286)) fun s226 => some (.nx (s226.1, s226.2))) (b' := fun k104 s110 => Option.bind (Option.bind (idx q.parts (k104 : Int)) fun x131 => Option.bind (if s110.1 = true then (Option.bind (portref2_matches x x131 id) fun x161 => some (!(x161 == x131.not_))) else (some false)) fun s150 => if x131.not_ = true then some (s150, s110.2.1, s110.2.2) else Option.bind (portref2_termsOf x x131) fun x179 => Option.bind (rangeB (R := Empty) (fun k189 s195 => Option.bind (idx x179 (k189 : Int)) fun x208 => Option.bind (portref2_termScore x x208 id) fun x237 => some (.nx (⟨s195.id_, w64 (s195.score + x237)⟩ : know_Hit))) x179.length 0 s110.2.2) fun o186 => o186.andThen (fun y => y.elim) fun s187 => some (s150, true, s187)) fun s124 => some (.nx (s124.1, s124.2.1, s124.2.2))) q.parts.length (fun _ => False) (fun j s s' => s' = (s.1, (q.parts.take j).any (fun p => !p.not_), (⟨id, s.2⟩ : know_Hit)) ∧ w64 s.2 = s.2) (s := (true, 0)) (s' := (true, false, ⟨id, 0⟩)) ⟨rfl, by decide⟩ (by
  rintro j ⟨f, v⟩ _ hj ⟨rfl, hv⟩
  simp only at hv ⊢
  have hgj : q.parts[j]? = some q.parts[j] := List.getElem?_eq_getElem hj
  have hpo := hq.ok _ (List.getElem_mem hj)
  have htk : q.parts.take (j + 1) = q.parts.take j ++ [q.parts[j]] := by rw [List.take_add_one, hgj]; rfl
  obtain ⟨N, n1, n2⟩ := hq.named j _ hgj
  rw [idx_lt _ _ hj, htk, List.any_append]
  generalize q.parts[j] = p at hpo n2
  obtain ⟨b, b1, b2⟩ := matches_eq hx hs hpo n2 id
  obtain ⟨N', T, m1, m2, m3, m4⟩ := terms_of hx hs hpo
  rw [n2] at m1
  cases m1
  obtain ⟨u, u1, u2, u3⟩ := sum_loops hx hs k id hk m4 m3 v hv
  simp only [Option.bind_some, idx_nat, n1, b1, b2, m2]
  have hf : (if f = true then some (!(b == p.not_)) else some false) = some (f && (!(b == p.not_))) := by cases f <;> rfl
  rw [hf]
  simp only [Option.bind_some]
  cases hn : p.not_ with
  | true =>
   refine Or.inr ⟨_, _, rfl, rfl, ?_, hv⟩
   simp [hn]
  | false =>
   simp only [Bool.false_eq_true, if_false]
   have u1' := u1
   simp only [idx_nat] at u1' u2
   rw [u1', u2]
   refine Or.inr ⟨_, _, rfl, rfl, ?_, u3⟩
   simp [hn])
 rcases key with ⟨_, _, _, h⟩ | ⟨⟨f, v⟩, _, a1, a2, rfl, _⟩
 ·exact h.elim
 ·rw [List.take_length] at a2
  exact ⟨f, v, a1, a2⟩
theorem found_eq {x : know_Index} (hx : IndexOk x) (hs : Small x) {q : know_Query} {NL : List (List know_Term)} (hq : Asked x q NL) :
  ∃ H, rangeB (R := (List know_Hit) × Int) (fun k52 s60 => Option.bind (Option.bind (idx x.ids (k52 : Int)) fun x85 => Option.bind (rangeB (R := Empty) (fun k104 s110 => Option.bind (Option.bind (idx q.parts (k104 : Int)) fun x131 => Option.bind (if s110.1 = true then (Option.bind (portref2_matches x x131 x85) fun x161 => some (!(x161 == x131.not_))) else (some false)) fun s150 => if x131.not_ = true then some (s150, s110.2.1, s110.2.2) else Option.bind (portref2_termsOf x x131) fun x179 => Option.bind (rangeB (R := Empty) (fun k189 s195 => Option.bind (idx x179 (k189 : Int)) fun x208 => Option.bind (portref2_termScore x x208 x85) fun x237 => some (.nx (⟨s195.id_, w64 (s195.score + x237)⟩ : know_Hit))) x179.length 0 s110.2.2) fun o186 => o186.andThen (fun y => y.elim) fun s187 => some (s150, true, s187)) fun s124 => some (.nx (s124.1, s124.2.1, s124.2.2))) q.parts.length 0 (true, false, (⟨x85, 0⟩ : know_Hit))) fun o101 => o101.andThen (fun y => y.elim) fun s102 => Option.bind (if (s102.1 && s102.2.1) = true then Option.bind (appendL 8796093022208 s60 ([s102.2.2] : List know_Hit)) fun x269 => some x269 else some s60) fun s254 => some s254) fun s76 => some (.nx s76)) x.ids.length 0 ([] : (List know_Hit)) = some (.fin H) ∧ H.length ≤ 200 ∧ (q.parts.any (fun p => !p.not_) = false → H = []) ∧ (q.parts.any (fun p => !p.not_) = true → rangeB (R := (List know_Hit) × Int) (fun k162 s170 => Option.bind (Option.bind (idx x.ids (k162 : Int)) fun x195 => Option.bind (rangeB (R := Empty) (fun k206 s212 => Option.bind (Option.bind (idx q.parts (k206 : Int)) fun x233 => Option.bind (if s212.1 = true then (Option.bind (idx NL (k206 : Int)) fun x263 => Option.bind (know_Index_matches x x233 x263 x195) fun x270 => some (!(x270 == x233.not_))) else (some false)) fun s252 => if x233.not_ = true then some (s252, s212.2) else Option.bind (idx NL (k206 : Int)) fun x278 => Option.bind (rangeB (R := Empty) (fun k288 s294 => Option.bind (idx x278 (k288 : Int)) fun x307 => Option.bind (know_Index_score x x307 (k162 : Int)) fun x335 => some (.nx (w64 (s294 + x335)))) x278.length 0 s212.2) fun o285 => o285.andThen (fun y => y.elim) fun s286 => some (s252, s286)) fun s226 => some (.nx (s226.1, s226.2))) q.parts.length 0 (true, 0)) fun o203 => o203.andThen (fun y => y.elim) fun s204 => Option.bind (if s204.1 = true then Option.bind (appendL 8796093022208 s170 ([(⟨x195, s204.2⟩ : know_Hit)] : List know_Hit)) fun x362 => some x362 else some s170) fun s347 => some s347) fun s186 => some (.nx s186)) x.ids.length 0 ([] : (List know_Hit)) = some (.fin H)) := by
 have key := rangeB_sim (R := (List know_Hit) × Int) (b := fun k162 s170 => Option.bind (Option.bind (idx x.ids (k162 : Int)) fun x195 => Option.bind (rangeB (R := Empty) (fun k206 s212 => Option.bind (Option.bind (idx q.parts (k206 : Int)) fun x233 => Option.bind (if s212.1 = true then (Option.bind (idx NL (k206 : Int)) fun x263 => Option.bind (know_Index_matches x x233 x263 x195) fun x270 => some (!(x270 == x233.not_))) else (some false)) fun s252 => if x233.not_ = true then some (s252, s212.2) else Option.bind (idx NL (k206 : Int)) fun x278 => Option.bind (rangeB (R := Empty) (fun k288 s294 => Option.bind (idx x278 (k288 : Int)) fun x307 => Option.bind (know_Index_score x x307 (k162 : Int)) fun x335 => some (.nx (w64 (s294 + x335)))) x278.length 0 s212.2) fun o285 => o285.andThen (fun y => y.elim) fun s286 => some (s252, s286)) fun s226 => some (.nx (s226.1, s226.2))) q.parts.length 0 (true, 0)) fun o203 => o203.andThen (fun y => y.elim) fun s204 => Option.bind (if s204.1 = true then Option.bind (appendL 8796093022208 s170 ([(⟨x195, s204.2⟩ : know_Hit)] : List know_Hit)) fun x362 => some x362 else some s170) fun s347 => some s347) fun s186 => some (.nx s186)) (b' := fun k52 s60 => Option.bind (Option.bind (idx x.ids (k52 : Int)) fun x85 => Option.bind (rangeB (R := Empty) (fun k104 s110 => Option.bind (Option.bind (idx q.parts (k104 : Int)) fun x131 => Option.bind (if s110.1 = true then (Option.bind (portref2_matches x x131 x85) fun x161 => some (!(x161 == x131.not_))) else (some false)) fun s150 => if x131.not_ = true then some (s150, s110.2.1, s110.2.2) else Option.bind (portref2_termsOf x x131) fun x179 => Option.bind (rangeB (R := Empty) (fun k189 s195 => Option.bind (idx x179 (k189 : Int)) fun x208 => Option.bind (portref2_termScore x x208 x85) fun x237 => some (.nx (⟨s195.id_, w64 (s195.score + x237)⟩ : know_Hit))) x179.length 0 s110.2.2) fun o186 => o186.andThen (fun y => y.elim) fun s187 => some (s150, true, s187)) fun s124 => some (.nx (s124.1, s124.2.1, s124.2.2))) q.parts.length 0 (true, false, (⟨x85, 0⟩ : know_Hit))) fun o101 => o101.andThen (fun y => y.elim) fun s102 => Option.bind (if (s102.1 && s102.2.1) = true then Option.bind (appendL 8796093022208 s60 ([s102.2.2] : List know_Hit)) fun x269 => some x269 else some s60) fun s254 => some s254) fun s76 => some (.nx s76)) x.ids.length (fun _ => False) (fun k s s' => s'.length ≤ k ∧ (q.parts.any (fun p => !p.not_) = false → s' = []) ∧ (q.parts.any (fun p => !p.not_) = true → s = s')  ∧ s.length ≤ k) (s := []) (s' := []) ⟨Nat.le_refl _, fun _ => rfl, fun _ => rfl, Nat.le_refl _⟩ (by
  rintro k s s' hk ⟨hle, i1, i2, i3⟩
  have hlen := hx.len
  have hid : x.ids[k]? = some x.ids[k] := List.getElem?_eq_getElem hk
  rw [idx_lt _ _ hk]
  generalize x.ids[k] = id at hid
  obtain ⟨f, v, h1, h2⟩ := entry_loops hx hs hq k id hid
  simp only [Option.bind_some]
  rw [h1, h2]
  have hap : ∀ z : List know_Hit, z.length ≤ k → appendL 8796093022208 z ([(⟨id, v⟩ : know_Hit)] : List know_Hit) = some (z ++ [⟨id, v⟩]) := fun z hz => by
   unfold appendL
   rw [if_pos (by rw [List.length_singleton]; omega)]
  simp only [Option.bind_some, Lp.andThen_fin, hap s i3, hap s' hle]
  cases f with
  | false => exact Or.inr ⟨s, s', rfl, rfl, by omega, i1, i2, by omega⟩
  | true =>
   cases ha : q.parts.any (fun p => !p.not_) with
   | false =>
    rw [ha] at i1 i2
    exact Or.inr ⟨s ++ [⟨id, v⟩], s', rfl, rfl, by omega, fun _ => i1 rfl, (fun h => by cases h), by rw [List.length_append, List.length_singleton]; omega⟩
   | true =>
    rw [ha] at i1 i2
    have := i2 rfl
    subst this
    exact Or.inr ⟨s ++ [⟨id, v⟩], s ++ [⟨id, v⟩], rfl, rfl, by rw [List.length_append, List.length_singleton]; omega, (fun h => by cases h), fun _ => rfl, by rw [List.length_append, List.length_singleton]; omega⟩)
 rcases key with ⟨_, _, _, h⟩ | ⟨H, H', a1, a2, a3, a4, a5, a6⟩
 ·exact h.elim
 ·exact ⟨H', a2, Nat.le_trans a3 hx.len, a4, fun h => by rw [a1, a5 h]⟩
theorem search_eq (x : know_Index) (hs : Small x) (q : know_Query) (hqs : sizesOk q) (most : Int) : ∃ r, know_Search x q most = some r ∧ portref2_SearchOf x q most = some r := by
 obtain ⟨c, c1, c2, c3⟩ := index_eq x hs
 obtain ⟨d, d1, d2, d3⟩ := query_eq q hqs
 unfold know_Search portref2_SearchOf
 simp only [c1, c2, d1, d2, Option.bind_some]
 cases h0 : (c != 0) with
 | true => exact ⟨_, rfl, rfl⟩
 | false =>
 have hx := c3 (by simpa using h0)
 simp only [Bool.false_eq_true, if_false]
 cases h1 : (d.2 != 0) with
 | true => exact ⟨_, rfl, rfl⟩
 | false =>
 simp only [Bool.false_eq_true, if_false]
 obtain ⟨h20, hgood⟩ := d3 (by simpa using h1)
 have hpo : ∀ p ∈ q.parts, PartOk p := fun p hp => part_ok (hgood p hp).1 (hgood p hp).2 (hqs p hp).2
 have e1 : (!(know_within most 0 100)) = ((decide (most < 0)) || (decide ((100 : Int) < most))) := by
  rw [Bool.eq_iff_iff]; simp [know_within] <;> omega
 rw [e1]
 cases h2 : ((decide (most < 0)) || (decide ((100 : Int) < most))) with
 | true => exact ⟨_, rfl, rfl⟩
 | false =>
 simp only [Bool.false_eq_true, if_false]
 have hm0 : 0 ≤ most := by simp at h2; omega
 rw [containsP_val q.parts (fun y47 => know_Search_1 y47) (fun p => !p.not_) (fun _ _ => rfl), Option.bind_some]
 obtain ⟨NL, n1, hq⟩ := named_list hx hs q hpo h20
 obtain ⟨H, g1, g2, g3, g4⟩ := found_eq hx hs hq
 obtain ⟨R, r1, r2⟩ := ranked_eq H g2 most hm0
 cases ha : q.parts.any (fun p => !p.not_) with
 | false =>
  have hH := g3 ha
  subst hH
  have hR : R = [] := by
   unfold know_ranked sortFuncL at r1
   split at r1
   ·simp only [List.mergeSort_nil, Option.bind_some] at r1
    have e : (if (([] : List know_Hit).length : Int) < most then (([] : List know_Hit).length : Int) else most) = ((0 : Nat) : Int) ∨ most = 0 := by
     by_cases h : (0 : Int) < most
     ·left; rw [if_pos (by simpa using h)]; rfl
     ·right; omega
    have e2 : sliceL ([] : List know_Hit) none (some (if (([] : List know_Hit).length : Int) < most then (([] : List know_Hit).length : Int) else most)) = some [] := by
     have e3 : (if (([] : List know_Hit).length : Int) < most then (([] : List know_Hit).length : Int) else most) = ((0 : Nat) : Int) := by
      rcases e with e | e
      ·exact e
      ·rw [e]; rfl
     rw [e3]
     exact take_val ([] : List know_Hit) 0 (Nat.le_refl _)
    rw [e2] at r1
    simp only [Option.bind_some, slices_Clone_Lknow_Hit_know_Hit, appendL] at r1
    simpa using r1.symm
   ·cases r1
  subst hR
  refine ⟨([], 0), rfl, ?_⟩
  rw [g1]
  simp only [Option.bind_some, Lp.andThen_fin, r2]
 | true =>
  simp only [Bool.not_true, Bool.false_eq_true, if_false]
  rw [n1]
  simp only [Option.bind_some, Lp.andThen_fin]
  rw [g4 ha, g1]
  simp only [Option.bind_some, Lp.andThen_fin, r1, r2]
  exact ⟨_, rfl, rfl⟩
end Go.Proofs.YtjdjmddclfhpeaaGreatDoor.M
namespace Go.Proofs.YtjdjmddclfhpeaaGreatDoor.M
open Go Go.Pu
set_option linter.unusedSimpArgs false
set_option linter.unusedVariables false
theorem named_eq {x : know_Index} (hx : IndexOk x) (hs : Small x) (ws : List ByteArray) (hw : ∀ w ∈ ws, w.size ≤ 30) (hn : ws.length ≤ 1048576) :
  ∃ L m, rangeB (R := List know_Term) (fun k142 s150 => Option.bind (Option.bind (idx ws (k142 : Int)) fun x175 => Option.bind (know_Stem x175) fun x179 => Option.bind (know_Index_term x x179) fun x187 => Option.bind (if (x187.2 && (!((mapGet s150.2 x179).getD false))) = true then Option.bind (appendL 3518437208883 s150.1 ([x187.1] : List know_Term)) fun x231 => some (x231, (mapPut s150.2 x179 true)) else some (s150.1, s150.2)) fun s207 => some (s207.1, s207.2)) fun s166 => some (.nx (s166.1, s166.2))) ws.length 0 (([] : (List know_Term)), ([] : List (ByteArray × Bool))) = some (.fin (L, m)) ∧ rangeB (R := (List know_Hit) × Int) (fun k49 s57 => Option.bind (Option.bind (idx ws (k49 : Int)) fun x82 => Option.bind (portref2_StemOf x82) fun x87 => Option.bind (portref2_termOf x x87) fun x98 => Option.bind (if (x98.2 && (!((mapGet s57.2 x87).getD false))) = true then Option.bind (appendL 3518437208883 s57.1 ([x98.1] : List know_Term)) fun x142 => some (x142, (mapPut s57.2 x87 true)) else some (s57.1, s57.2)) fun s118 => some (s118.1, s118.2)) fun s73 => some (.nx (s73.1, s73.2))) ws.length 0 (([] : (List know_Term)), ([] : List (ByteArray × Bool))) = some (.fin (L, m)) ∧ Picked x L ∧ L.length ≤ ws.length := by
 rcases rangeB_sim' (R := List know_Term) (R' := (List know_Hit) × Int) (b := fun k142 s150 => Option.bind (Option.bind (idx ws (k142 : Int)) fun x175 => Option.bind (know_Stem x175) fun x179 => Option.bind (know_Index_term x x179) fun x187 => Option.bind (if (x187.2 && (!((mapGet s150.2 x179).getD false))) = true then Option.bind (appendL 3518437208883 s150.1 ([x187.1] : List know_Term)) fun x231 => some (x231, (mapPut s150.2 x179 true)) else some (s150.1, s150.2)) fun s207 => some (s207.1, s207.2)) fun s166 => some (.nx (s166.1, s166.2))) (b' := fun k49 s57 => Option.bind (Option.bind (idx ws (k49 : Int)) fun x82 => Option.bind (portref2_StemOf x82) fun x87 => Option.bind (portref2_termOf x x87) fun x98 => Option.bind (if (x98.2 && (!((mapGet s57.2 x87).getD false))) = true then Option.bind (appendL 3518437208883 s57.1 ([x98.1] : List know_Term)) fun x142 => some (x142, (mapPut s57.2 x87 true)) else some (s57.1, s57.2)) fun s118 => some (s118.1, s118.2)) fun s73 => some (.nx (s73.1, s73.2))) ws.length (fun k s s' => s = s' ∧ Picked x s.1 ∧ s.1.length ≤ k) (s := (([] : (List know_Term)), ([] : List (ByteArray × Bool)))) (s' := (([] : (List know_Term)), ([] : List (ByteArray × Bool)))) ⟨rfl, ⟨fun t h => by cases h⟩, Nat.le_refl _⟩ (by
  rintro k s _ hk ⟨rfl, hp, hle⟩
  rw [idx_lt _ _ hk]
  have hwk := hw _ (List.getElem_mem hk)
  generalize ws[k] = w at hwk
  obtain ⟨y, y1, y2⟩ := stem_eq w (by omega)
  obtain ⟨r, r1, r2, r3, _⟩ := find_term hx hs y
  simp only [Option.bind_some, y1, y2, r1, r2]
  cases hc : (r.2 && (!((mapGet s.2 y).getD false))) with
  | false => exact ⟨s, s, rfl, rfl, rfl, hp, by omega⟩
  | true =>
   simp only [if_true, appendL]
   rw [if_pos (by simp; omega)]
   have hr2 : r.2 = true := by rw [Bool.and_eq_true] at hc; exact hc.1
   refine ⟨_, _, rfl, rfl, rfl, ⟨fun t ht => ?_⟩, by simp; omega⟩
   rcases List.mem_append.1 ht with h | h
   ·exact hp.mem t h
   ·rw [List.mem_singleton] at h; subst h; exact (r3 hr2).1) with ⟨⟨L, m⟩, _, a1, a2, rfl, a3, a4⟩
 exact ⟨L, m, a1, a2, a3, a4⟩
def tl (a b : know_Term) : Prop := a.list_.length < b.list_.length ∨ a.list_.length = b.list_.length ∧ cmpS a.word b.word < 0
theorem sug_val (a b : know_Term) : ∃ v, know_Suggest_1 a b = some v ∧ portref2_SuggestOf_1 a b = some v ∧ (v < 0 ↔ tl a b) := by
 have e1 : know_byWord a b = some (cmpS a.word b.word) := rfl
 have e2 : strings_Compare a.word b.word = some (cmpS a.word b.word) := rfl
 unfold know_Suggest_1 portref2_SuggestOf_1
 simp only [e1, e2, Option.bind_some, or_two_ints, compare_ii]
 refine ⟨_, rfl, rfl, ?_⟩
 unfold tl
 split <;> split <;> (try split) <;> omega
theorem tl_ntrans {a b c : know_Term} (h1 : ¬ tl a b) (h2 : ¬ tl b c) : ¬ tl a c := by
 unfold tl at h1 h2 ⊢
 rintro (h | ⟨h, h3⟩)
 ·omega
 ·have e1 : a.list_.length = b.list_.length := by omega
  have e2 : b.list_.length = c.list_.length := by omega
  have h4 : 0 ≤ cmpS a.word b.word := by omega
  have h5 : 0 ≤ cmpS b.word c.word := by omega
  rw [cmpS_swap] at h4
  by_cases h6 : cmpS b.word a.word = 0
  ·rw [cmpS_zero] at h6
   rw [h6] at h5
   omega
  ·have := cmpS_trans (show cmpS b.word a.word < 0 by omega) h3
   omega
theorem sort_terms {x : know_Index} (hx : IndexOk x) {L : List know_Term} (hp : Picked x L) (hl : L.length ≤ 1048576) : ∃ L', sortFuncL (fun y71 y72 => know_Suggest_1 y71 y72) L = some L' ∧ sortFuncL (fun y158 y159 => portref2_SuggestOf_1 y158 y159) L = some L' ∧ Picked x L' ∧ L'.length = L.length := by
 have hcmp : (fun y158 y159 => portref2_SuggestOf_1 y158 y159) = (fun y71 y72 => know_Suggest_1 y71 y72) := by
  funext a b
  obtain ⟨v, h1, h2, _⟩ := sug_val a b
  rw [h1, h2]
 have hlt : ∀ a b : know_Term, cmpLt (fun y71 y72 => know_Suggest_1 y71 y72) a b = true ↔ tl a b := fun a b => by
  obtain ⟨v, h1, _, h2⟩ := sug_val a b
  unfold cmpLt
  simp only [h1, decide_eq_true_eq]
  exact h2
 have hnl : ∀ a b : know_Term, cmpLt (fun y71 y72 => know_Suggest_1 y71 y72) a b = false ↔ ¬ tl a b := fun a b => by rw [← hlt, Bool.not_eq_true]
 have hok : SortOk (fun y71 y72 => know_Suggest_1 y71 y72) L := by
  refine ⟨by omega, fun a _ b _ => ?_, fun a _ => ?_, fun a _ b _ c _ => ?_, fun a _ b _ c _ => ?_, fun a ha b hb => ?_⟩
  ·obtain ⟨v, h1, _⟩ := sug_val a b
   exact ⟨v, h1⟩
  ·rw [hnl]; unfold tl; rw [cmpS_self]; omega
  ·rw [hlt, hlt, hlt]
   intro h1 h2
   unfold tl at h1 h2 ⊢
   rcases h1 with h1 | ⟨h1, h3⟩
   ·rcases h2 with h2 | ⟨h2, h4⟩ <;> left <;> omega
   ·rcases h2 with h2 | ⟨h2, h4⟩
    ·left; omega
    ·right; exact ⟨by omega, cmpS_trans h3 h4⟩
  ·rw [hnl, hnl, hnl]
   exact tl_ntrans
  ·rw [hnl, hnl]
   intro h1 h2
   refine same_word hx (hp.mem a ha) (hp.mem b hb) ((cmpS_zero _ _).1 ?_)
   unfold tl at h1 h2
   have := cmpS_swap a.word b.word
   omega
 rw [hcmp]
 unfold sortFuncL
 rw [if_pos hok]
 refine ⟨_, rfl, rfl, ⟨fun t ht => hp.mem t ((List.mergeSort_perm _ _).mem_iff.1 ht)⟩, List.length_mergeSort _⟩
theorem contains_some (l : List Int) (v : Int) : ∃ b, slices_Contains_Lint_int l v = some b := by
 unfold slices_Contains_Lint_int slices_Index_Lint_int
 obtain ⟨o, ho, _⟩ := rangeB_spec (R := Int) (body := fun k6 (_ : Unit) => Option.bind (idx l (k6 : Int)) fun x21 => if (v == x21) = true then some (.rt (k6 : Int)) else some (.nx ())) l.length (fun _ _ => True) (fun _ => True) (s := ()) trivial (by
  intro k _ hk _
  rw [idx_lt l k hk, Option.bind_some]
  cases v == l[k]
  ·exact ⟨_, rfl, trivial⟩
  ·exact ⟨_, rfl, trivial⟩) (fun _ _ => trivial)
 rw [ho]
 cases o <;> exact ⟨_, rfl⟩
theorem hit_loop {x : know_Index} (hx : IndexOk x) (hs : Small x) {L : List know_Term} (hp : Picked x L) (k : Nat) (id : Int) (hk : x.ids[k]? = some id) :
  ∃ f v, rangeB (R := Empty) (fun k138 s144 => Option.bind (idx L (k138 : Int)) fun x157 => Option.bind (know_Term_posting x157 id) fun x179 => Option.bind (know_Index_score x x157 (k : Int)) fun x213 => some (.nx ((s144.1 || x179.2), w64 (s144.2 + x213)))) L.length 0 (false, 0) = some (.fin (f, v)) ∧ rangeB (R := Empty) (fun k233 s239 => Option.bind (idx L (k233 : Int)) fun x252 => Option.bind (portref2_postingOf x252 id) fun x274 => Option.bind (portref2_termScore x x252 id) fun x308 => some (.nx ((s239.1 || x274.2), (⟨s239.2.id_, w64 (s239.2.score + x308)⟩ : know_Hit)))) L.length 0 (false, (⟨id, 0⟩ : know_Hit)) = some (.fin (f, ⟨id, v⟩)) := by
 rcases rangeB_sim (R := Empty) (b := fun k138 s144 => Option.bind (idx L (k138 : Int)) fun x157 => Option.bind (know_Term_posting x157 id) fun x179 => Option.bind (know_Index_score x x157 (k : Int)) fun x213 => some (.nx ((s144.1 || x179.2), w64 (s144.2 + x213)))) (b' := fun k233 s239 => Option.bind (idx L (k233 : Int)) fun x252 => Option.bind (portref2_postingOf x252 id) fun x274 => Option.bind (portref2_termScore x x252 id) fun x308 => some (.nx ((s239.1 || x274.2), (⟨s239.2.id_, w64 (s239.2.score + x308)⟩ : know_Hit)))) L.length (fun _ => False) (fun _ s s' => s' = (s.1, (⟨id, s.2⟩ : know_Hit))) (s := (false, 0)) (s' := (false, ⟨id, 0⟩)) rfl (by
  rintro j ⟨f, v⟩ _ hj rfl
  rw [idx_lt _ _ hj]
  have htm := hp.mem _ (List.getElem_mem hj)
  generalize L[j] = t at htm
  obtain ⟨r, r1, r2, _⟩ := find_post (hx.terms t htm).rise (hs.list t htm) id
  obtain ⟨u, u1, u2⟩ := score_eq hx hs htm k id hk
  simp only [Option.bind_some, r1, r2, u1, u2]
  exact Or.inr ⟨_, _, rfl, rfl, rfl⟩) with ⟨_, _, _, h⟩ | ⟨⟨f, v⟩, _, a1, a2, rfl⟩
 ·exact h.elim
 ·exact ⟨f, v, a1, a2⟩
theorem hits_eq {x : know_Index} (hx : IndexOk x) (hs : Small x) {L : List know_Term} (hp : Picked x L) (sent : List Int) :
  ∃ H, rangeB (R := (List know_Hit) × Int) (fun k98 s106 => Option.bind (Option.bind (idx x.ids (k98 : Int)) fun x131 => Option.bind (rangeB (R := Empty) (fun k138 s144 => Option.bind (idx L (k138 : Int)) fun x157 => Option.bind (know_Term_posting x157 x131) fun x179 => Option.bind (know_Index_score x x157 (k98 : Int)) fun x213 => some (.nx ((s144.1 || x179.2), w64 (s144.2 + x213)))) L.length 0 (false, 0)) fun o135 => o135.andThen (fun y => y.elim) fun s136 => Option.bind (if s136.1 = true then (Option.bind (slices_Contains_Lint_int sent x131) fun x222 => some (!x222)) else (some false)) fun s221 => Option.bind (if s221 = true then Option.bind (appendL 8796093022208 s106 ([(⟨x131, s136.2⟩ : know_Hit)] : List know_Hit)) fun x239 => some x239 else some s106) fun s224 => some s224) fun s122 => some (.nx s122)) x.ids.length 0 ([] : (List know_Hit)) = some (.fin H) ∧ rangeB (R := (List know_Hit) × Int) (fun k185 s193 => Option.bind (Option.bind (idx x.ids (k185 : Int)) fun x218 => Option.bind (rangeB (R := Empty) (fun k233 s239 => Option.bind (idx L (k233 : Int)) fun x252 => Option.bind (portref2_postingOf x252 x218) fun x274 => Option.bind (portref2_termScore x x252 x218) fun x308 => some (.nx ((s239.1 || x274.2), (⟨s239.2.id_, w64 (s239.2.score + x308)⟩ : know_Hit)))) L.length 0 (false, (⟨x218, 0⟩ : know_Hit))) fun o230 => o230.andThen (fun y => y.elim) fun s231 => Option.bind (if s231.1 = true then (Option.bind (slices_Contains_Lint_int sent x218) fun x320 => some (!x320)) else (some false)) fun s319 => Option.bind (if s319 = true then Option.bind (appendL 8796093022208 s193 ([s231.2] : List know_Hit)) fun x337 => some x337 else some s193) fun s322 => some s322) fun s209 => some (.nx s209)) x.ids.length 0 ([] : (List know_Hit)) = some (.fin H) ∧ H.length ≤ 200 := by
 rcases rangeB_sim (R := (List know_Hit) × Int) (b := fun k98 s106 => Option.bind (Option.bind (idx x.ids (k98 : Int)) fun x131 => Option.bind (rangeB (R := Empty) (fun k138 s144 => Option.bind (idx L (k138 : Int)) fun x157 => Option.bind (know_Term_posting x157 x131) fun x179 => Option.bind (know_Index_score x x157 (k98 : Int)) fun x213 => some (.nx ((s144.1 || x179.2), w64 (s144.2 + x213)))) L.length 0 (false, 0)) fun o135 => o135.andThen (fun y => y.elim) fun s136 => Option.bind (if s136.1 = true then (Option.bind (slices_Contains_Lint_int sent x131) fun x222 => some (!x222)) else (some false)) fun s221 => Option.bind (if s221 = true then Option.bind (appendL 8796093022208 s106 ([(⟨x131, s136.2⟩ : know_Hit)] : List know_Hit)) fun x239 => some x239 else some s106) fun s224 => some s224) fun s122 => some (.nx s122)) (b' := fun k185 s193 => Option.bind (Option.bind (idx x.ids (k185 : Int)) fun x218 => Option.bind (rangeB (R := Empty) (fun k233 s239 => Option.bind (idx L (k233 : Int)) fun x252 => Option.bind (portref2_postingOf x252 x218) fun x274 => Option.bind (portref2_termScore x x252 x218) fun x308 => some (.nx ((s239.1 || x274.2), (⟨s239.2.id_, w64 (s239.2.score + x308)⟩ : know_Hit)))) L.length 0 (false, (⟨x218, 0⟩ : know_Hit))) fun o230 => o230.andThen (fun y => y.elim) fun s231 => Option.bind (if s231.1 = true then (Option.bind (slices_Contains_Lint_int sent x218) fun x320 => some (!x320)) else (some false)) fun s319 => Option.bind (if s319 = true then Option.bind (appendL 8796093022208 s193 ([s231.2] : List know_Hit)) fun x337 => some x337 else some s193) fun s322 => some s322) fun s209 => some (.nx s209)) x.ids.length (fun _ => False) (fun k s s' => s = s' ∧ s.length ≤ k) (s := []) (s' := []) ⟨rfl, Nat.le_refl _⟩ (by
  rintro k s _ hk ⟨rfl, hle⟩
  have hlen := hx.len
  have hid : x.ids[k]? = some x.ids[k] := List.getElem?_eq_getElem hk
  rw [idx_lt _ _ hk]
  generalize x.ids[k] = id at hid
  obtain ⟨f, v, h1, h2⟩ := hit_loop hx hs hp k id hid
  obtain ⟨b, hb⟩ := contains_some sent id
  simp only [Option.bind_some]
  rw [h1, h2]
  have hap : appendL 8796093022208 s ([(⟨id, v⟩ : know_Hit)] : List know_Hit) = some (s ++ [⟨id, v⟩]) := by
   unfold appendL
   rw [if_pos (by rw [List.length_singleton]; omega)]
  simp only [Option.bind_some, Lp.andThen_fin, hb, hap]
  cases f
  ·exact Or.inr ⟨s, s, rfl, rfl, rfl, by omega⟩
  ·cases b
   ·exact Or.inr ⟨s ++ [⟨id, v⟩], s ++ [⟨id, v⟩], rfl, rfl, rfl, by rw [List.length_append, List.length_singleton]; omega⟩
   ·exact Or.inr ⟨s, s, rfl, rfl, rfl, by omega⟩) with ⟨_, _, _, h⟩ | ⟨H, _, a1, a2, rfl, a3⟩
 ·exact h.elim
 ·exact ⟨H, a1, a2, Nat.le_trans a3 hx.len⟩
theorem suggest_eq (x : know_Index) (hs : Small x) (text : ByteArray) (sent : List Int) (most : Int) : ∃ r, know_Suggest x text sent most = some r ∧ portref2_SuggestOf x text sent most = some r := by
 obtain ⟨c, c1, c2, c3⟩ := index_eq x hs
 unfold know_Suggest portref2_SuggestOf
 rw [c1, c2, Option.bind_some, Option.bind_some]
 cases h0 : (c != 0) with
 | true => exact ⟨_, rfl, rfl⟩
 | false =>
 have hx := c3 (by simpa using h0)
 simp only [Bool.false_eq_true, if_false]
 cases h1 : ((decide ((20000 : Int) < (text.size : Int))) || (decide ((200 : Int) < (sent.length : Int)))) with
 | true => exact ⟨_, rfl, rfl⟩
 | false =>
 simp only [Bool.false_eq_true, if_false]
 have e1 : (!(know_within most 0 100)) = ((decide (most < 0)) || (decide ((100 : Int) < most))) := by
  rw [Bool.eq_iff_iff]; simp [know_within] <;> omega
 rw [e1]
 cases h2 : ((decide (most < 0)) || (decide ((100 : Int) < most))) with
 | true => exact ⟨_, rfl, rfl⟩
 | false =>
 simp only [Bool.false_eq_true, if_false]
 have hts : text.size ≤ 20000 := by simp at h1; omega
 have hm0 : 0 ≤ most := by simp at h2; omega
 rw [know_Words_val _ (by omega), portref2_WordsOf_val _ (by omega), Option.bind_some, Option.bind_some]
 have hwl : (wordsL text.data.toList).length ≤ 20000 := by
  have := wordsF_length text.data.toList.length text.data.toList
  rw [data_size] at this
  unfold wordsL
  rw [data_size]
  omega
 obtain ⟨L, m, l1, l2, l3, l4⟩ := named_eq hx hs (wordsL text.data.toList) (wordsF_size _ _) (by omega)
 unfold know_Index_named
 rw [if_neg (show ¬ (((1 : Int) == 2) = true) by decide)]
 simp only
 rw [l1, l2]
 simp only [Option.bind_some, Lp.andThen_fin]
 obtain ⟨L', s1, s2, s3, s4⟩ := sort_terms hx l3 (by omega)
 rw [s1, s2, Option.bind_some, Option.bind_some]
 have f1 : (if (L'.length : Int) < 20 then (L'.length : Int) else 20) = ((min 20 L'.length : Nat) : Int) := by split <;> omega
 have f2 : (if 20 < (L'.length : Int) then 20 else (L'.length : Int)) = ((min 20 L'.length : Nat) : Int) := by split <;> omega
 rw [f1, f2, take_val _ _ (Nat.min_le_right _ _), Option.bind_some, Option.bind_some]
 obtain ⟨H, g1, g2, g3⟩ := hits_eq hx hs (L := L'.take (min 20 L'.length)) ⟨fun t ht => s3.mem t (List.mem_of_mem_take ht)⟩ sent
 rw [g1, g2]
 simp only [Option.bind_some, Lp.andThen_fin]
 obtain ⟨R, r1, r2⟩ := ranked_eq H g3 most hm0
 rw [r1, r2]
 exact ⟨_, rfl, rfl⟩
end Go.Proofs.YtjdjmddclfhpeaaGreatDoor.M
namespace Go.Proofs.YtjdjmddclfhpeaaGreatDoor.M
open Go Go.Pu
set_option linter.unusedSimpArgs false
set_option linter.unusedVariables false
theorem KeyOrd.mrg_snoc {α κ : Type} {O : KeyOrd α κ} (b : α) : ∀ a : List α, (∀ x ∈ a, O.lt (O.key x) (O.key b)) → O.mrg a [b] = a ++ [b]
 | [], _ => KeyOrd.mrg_nil [b]
 | x :: a, h => by
  rw [KeyOrd.mrg, if_pos (h x List.mem_cons_self), KeyOrd.mrg_snoc b a fun y hy => h y (List.mem_cons_of_mem _ hy)]
  rfl
def badAt (l : List know_Entry) (k : Nat) : Int := match l[k]? with
 | none => 0
 | some v => if v.id_ < 1 ∨ 3000000 < v.id_ then 2 else if ∃ u ∈ (l.take k).getLast?, v.id_ ≤ u.id_ then 5 else textBad v
def First (l : List know_Entry) (c : Int) : Prop := (c = 0 ∧ ∀ k, badAt l k = 0) ∨ ∃ k, (∀ j, j < k → badAt l j = 0) ∧ badAt l k ≠ 0 ∧ c = badAt l k
theorem First.uniq {l : List know_Entry} {c c' : Int} (h : First l c) (h' : First l c') : c = c' := by
 rcases h with ⟨rfl, h⟩ | ⟨k, h1, h2, rfl⟩
 ·rcases h' with ⟨rfl, _⟩ | ⟨k', _, h2', _⟩
  ·rfl
  ·exact absurd (h k') h2'
 ·rcases h' with ⟨_, h'⟩ | ⟨k', h1', h2', rfl⟩
  ·exact absurd (h' k) h2
  ·rcases Nat.lt_trichotomy k k' with h | rfl | h
   ·exact absurd (h1' k h) h2
   ·rfl
   ·exact absurd (h1 k' h) h2'
theorem badAt_out {l : List know_Entry} {k : Nat} (h : l.length ≤ k) : badAt l k = 0 := by
 unfold badAt
 rw [List.getElem?_eq_none h]
theorem fault_loop {S R : Type} (l : List know_Entry) (b : Nat → S → Option (Ctl S R)) (E : Int → R) (I : Nat → S → Prop) (s : S) (h0 : I 0 s)
  (hb : ∀ k s, k < l.length → (∀ j, j < k → badAt l j = 0) → I k s → (badAt l k = 0 ∧ ∃ s', b k s = some (.nx s') ∧ I (k + 1) s') ∨ (badAt l k ≠ 0 ∧ b k s = some (.rt (E (badAt l k))))) :
  ∃ r, rangeB b l.length 0 s = some r ∧ ((First l 0 ∧ ∃ s', r = .fin s' ∧ I l.length s') ∨ ∃ c, c ≠ 0 ∧ First l c ∧ r = .rt (E c)) := by
 refine rangeB_spec l.length (fun k s => (∀ j, j < k → badAt l j = 0) ∧ I k s) _ ⟨fun j hj => absurd hj (Nat.not_lt_zero _), h0⟩ (fun k s hk hI => ?_) fun s hI => ?_
 ·rcases hb k s hk hI.1 hI.2 with ⟨h1, s', h2, h3⟩ | ⟨h1, h2⟩
  ·refine ⟨_, h2, fun j hj => ?_, h3⟩
   by_cases e : j = k
   ·rw [e]; exact h1
   ·exact hI.1 j (by omega)
  ·exact ⟨_, h2, .inr ⟨_, h1, .inr ⟨k, hI.1, h1, rfl⟩, rfl⟩⟩
 ·refine .inl ⟨.inl ⟨rfl, fun k => ?_⟩, s, rfl, hI.2⟩
  by_cases h : k < l.length
  ·exact hI.1 k h
  ·exact badAt_out (by omega)
theorem last_take {l : List know_Entry} {k : Nat} (hk : k < l.length) : ((l.take (k + 1)).getLast?) = some l[k] := by
 rw [List.take_add_one, List.getElem?_eq_getElem hk, Option.toList_some, List.getLast?_concat]
theorem good_of {l : List know_Entry} (h : First l 0) : (l.Pairwise fun a b => a.id_ < b.id_) ∧ ∀ v ∈ l, v.title.size ≤ 200 ∧ v.body.size ≤ 20000 := by
 have h0 : ∀ k, badAt l k = 0 := by
  rcases h with ⟨_, h⟩ | ⟨k, _, h2, h3⟩
  ·exact h
  ·exact absurd h3.symm h2
 have step : ∀ k (hk : k < l.length), textBad l[k] = 0 ∧ ∀ j (hj : j + 1 = k), l[j].id_ < l[k].id_ := fun k hk => by
  have := h0 k
  unfold badAt at this
  rw [List.getElem?_eq_getElem hk] at this
  dsimp only at this
  split at this
  ·cases this
  ·split at this
   ·cases this
   ·rename_i h1 h2
    refine ⟨this, fun j hj => ?_⟩
    subst hj
    rcases Int.lt_or_le l[j].id_ l[j + 1].id_ with h | h
    ·exact h
    ·exact absurd ⟨l[j], by rw [last_take (by omega)]; rfl, h⟩ h2
 have mono : ∀ d i (h : i + d + 1 < l.length), l[i].id_ < l[i + d + 1].id_ := fun d => by
  induction d with
  | zero => exact fun i h => (step (i + 1) h).2 i rfl
  | succ d ih =>
   intro i h
   have h1 := ih i (by omega)
   have h2 := (step (i + (d + 1) + 1) h).2 (i + d + 1) (by omega)
   omega
 refine ⟨List.pairwise_iff_getElem.2 fun i j hi hj hij => ?_, fun v hv => ?_⟩
 ·obtain ⟨d, rfl⟩ : ∃ d, j = i + d + 1 := ⟨j - i - 1, by omega⟩
  exact mono d i hj
 ·obtain ⟨k, hk, rfl⟩ := List.mem_iff_getElem.1 hv
  exact textBad_size (step k hk).1
def noX : know_Index := ⟨[], [], []⟩
theorem adds_val (l : List know_Entry) (hr : l.Pairwise fun a b => a.id_ < b.id_) (hsz : ∀ v ∈ l, v.title.size ≤ 200 ∧ v.body.size ≤ 20000) (hlen : l.length ≤ 200) :
  ∃ T, rangeB (R := know_Index × Int) (fun k s => Option.bind (idx l (k : Int)) fun x => Option.bind (know_Index_with s x) fun y => some (.nx y)) l.length 0 noX = some (.fin ⟨l.map (·.id_), l.map sizeOfE, T⟩) ∧ Terms (anyS l) (lstOf l) T ∧ T.length ≤ 20200 * l.length := by
 obtain ⟨s, h1, i1, i2, i3, i4⟩ := rangeB_inv (R := know_Index × Int) (b := fun k s => Option.bind (idx l (k : Int)) fun x => Option.bind (know_Index_with s x) fun y => some (.nx y)) l.length
  (fun k s => s.ids = (l.take k).map (·.id_) ∧ s.sizes = (l.take k).map sizeOfE ∧ Terms (anyS (l.take k)) (lstOf (l.take k)) s.terms ∧ s.terms.length ≤ 20200 * k) (s := noX)
  ⟨rfl, rfl, ⟨List.Pairwise.nil, fun t => ⟨(fun h => by cases h), fun h => by rw [List.take_zero] at h; obtain ⟨⟨v, hv, _⟩, _⟩ := h; cases hv⟩⟩, Nat.zero_le _⟩ (fun k s hk hI => by
   obtain ⟨i1, i2, i3, i4⟩ := hI
   have hx : l[k]? = some l[k] := List.getElem?_eq_getElem hk
   have htk : l.take (k + 1) = l.take k ++ [l[k]] := by rw [List.take_add_one, hx]; rfl
   have hid : ∀ u ∈ l.take k, u.id_ < l[k].id_ := fun u hu => by
    obtain ⟨i, hi, rfl⟩ := List.mem_iff_getElem.1 hu
    rw [List.length_take] at hi
    rw [List.getElem_take]
    exact List.pairwise_iff_getElem.1 hr i k (by omega) hk (by omega)
   obtain ⟨ht, hb⟩ := hsz l[k] (List.getElem_mem hk)
   have hlk : (l.take k).length = k := by rw [List.length_take]; omega
   have hrk : (l.take k).Pairwise fun a b => a.id_ < b.id_ := List.Pairwise.sublist (List.take_sublist _ _) hr
   rw [htk]
   generalize l[k] = v at hx hid ht hb
   generalize l.take k = m at i1 i2 i3 hid hlk hrk
   have hil : s.ids.length = k := by rw [i1, List.length_map, hlk]
   obtain ⟨j, T', j1, j2, j3, j4, j5, j6⟩ := with_val (x := s) (v := v) (has := anyS m) (lst := lstOf m) i3 (fun t ht => lst_nil ht) (by rw [i1, List.pairwise_map]; exact hrk) (by omega) (fun t ht => by
    rw [((i3.mem t).1 ht).2]
    have := lst_len m t.word
    omega) (by omega) (by rw [i1, i2, List.length_map, List.length_map]) ht hb
   have hj : j = s.ids.length := by
    rcases Nat.lt_or_ge j s.ids.length with h | h
    ·exfalso
     have h2 := j3 j s.ids[j] (Nat.le_refl _) (List.getElem?_eq_getElem h)
     have h3 : s.ids[j] ∈ m.map (·.id_) := i1 ▸ List.getElem_mem h
     obtain ⟨u, hu, e⟩ := List.mem_map.1 h3
     have := hid u hu
     rw [e] at this
     omega
    ·omega
   have hsl : s.sizes.length = s.ids.length := by rw [i1, i2, List.length_map, List.length_map]
   rw [idx_nat, hx, Option.bind_some, j4, Option.bind_some, hj, List.take_length, List.drop_length, ← hsl, List.take_length, List.drop_length, List.append_nil, List.append_nil]
   refine ⟨_, rfl, by rw [List.map_append, ← i1]; rfl, by rw [List.map_append, ← i2]; rfl, j5.cong (fun t => (any_snoc m v t).symm) (fun t _ => ?_), by show T'.length ≤ _; omega⟩
   rw [lst_snoc]
   by_cases h : hasS v t
   ·rw [if_pos h, if_neg (show ¬ postE (postOf v t) from h)]
    refine KeyOrd.mrg_snoc _ _ fun x hx => ?_
    unfold lstOf at hx
    obtain ⟨p, hp, rfl⟩ := List.mem_map.1 hx
    obtain ⟨u, hu, _, e⟩ := pairs_id hp
    rw [e]
    exact hid u hu
   ·rw [if_neg h, if_pos (Classical.not_not.1 h), List.append_nil])
 rw [List.take_length] at i1 i2 i3
 refine ⟨s.terms, ?_, i3, i4⟩
 rw [h1, ← i1, ← i2]
theorem new_val (l : List know_Entry) (hlen : l.length ≤ 200) : ∃ x c, know_NewIndex l = some (x, c) ∧ First l c ∧ (c ≠ 0 → x = noX) ∧ (c = 0 → ∃ T, x = ⟨l.map (·.id_), l.map sizeOfE, T⟩ ∧ Terms (anyS l) (lstOf l) T ∧ T.length ≤ 20200 * l.length) := by
 obtain ⟨r, hr, hq⟩ := fault_loop (R := know_Index × Int) l (fun k15 s28 => Option.bind (idx l (k15 : Int)) fun x47 => Option.bind (know_checkEntry x47 s28.1) fun x61 => if (x61 != 0) = true then some (.rt ((⟨([] : (List Int)), ([] : (List Int)), ([] : (List know_Term))⟩ : know_Index), x61)) else some (.nx (x47.id_, s28.2)))
  (fun c => (noX, c)) (fun k s => s.2 = noX ∧ s.1 = if k = 0 then 0 else (l[k - 1]?.map (·.id_)).getD 0) ((0, (⟨([] : (List Int)), ([] : (List Int)), ([] : (List know_Term))⟩ : know_Index)) : Int × know_Index) ⟨rfl, rfl⟩ (fun k s hk _ hI => by
   have hx : l[k]? = some l[k] := List.getElem?_eq_getElem hk
   have hc : know_checkEntry l[k] s.1 = some (badAt l k) := by
    unfold know_checkEntry know_within badAt
    rw [hx]
    dsimp only
    by_cases h1 : l[k].id_ < 1 ∨ 3000000 < l[k].id_
    ·rw [if_pos h1, if_pos (by simp; omega)]
    ·rw [if_neg h1, if_neg (by simp; omega)]
     have h2 : l[k].id_ ≤ s.1 ↔ ∃ u ∈ (l.take k).getLast?, l[k].id_ ≤ u.id_ := by
      rw [hI.2]
      cases k with
      | zero =>
       rw [if_pos rfl]
       simp
       omega
      | succ k =>
       rw [if_neg (by omega), last_take (by omega), Nat.add_sub_cancel, List.getElem?_eq_getElem (by omega)]
       simp
     by_cases h3 : l[k].id_ ≤ s.1
     ·rw [if_pos (decide_eq_true h3), if_pos (h2.1 h3)]
     ·rw [if_neg (by simpa using h3), if_neg fun e => h3 (h2.2 e), textBad_code]
      rfl
   rw [idx_nat, hx, Option.bind_some, hc, Option.bind_some]
   by_cases h : badAt l k = 0
   ·rw [h]
    refine .inl ⟨rfl, _, rfl, hI.1, ?_⟩
    rw [if_neg (by omega), Nat.add_sub_cancel, hx]
    rfl
   ·rw [if_pos (by simpa using h)]
    exact .inr ⟨h, rfl⟩)
 unfold know_NewIndex
 rw [if_neg (by simp; omega), hr, Option.bind_some]
 rcases hq with ⟨hF, s', rfl, _⟩ | ⟨c, hc, hF, rfl⟩
 ·rw [Lp.andThen_fin]
  obtain ⟨g1, g2⟩ := good_of hF
  obtain ⟨T, h1, h2⟩ := adds_val l g1 g2 hlen
  refine ⟨_, 0, ?_, hF, fun h => absurd rfl h, fun _ => ⟨T, rfl, h2⟩⟩
  have h3 : rangeB (R := know_Index × Int) (fun k81 s93 => Option.bind (idx l (k81 : Int)) fun x112 => Option.bind (know_Index_with s93 x112) fun x126 => some (.nx x126)) l.length 0 (⟨([] : (List Int)), ([] : (List Int)), ([] : (List know_Term))⟩ : know_Index) = _ := h1
  rw [h3, Option.bind_some, Lp.andThen_fin]
 ·exact ⟨noX, c, rfl, hF, fun _ => rfl, fun h => absurd h hc⟩
end Go.Proofs.YtjdjmddclfhpeaaGreatDoor.M
