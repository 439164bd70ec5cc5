import Derived.Test.YtldkdabcdbgpbaaGreatDoorIndexChangesKxC
namespace Go.Proofs.YtldkdabcdbgpbaaGreatDoor.M
open Go Go.Pu
set_option linter.unusedSimpArgs false
set_option linter.unusedVariables false
def keepP (id : Int) (l : List know_Posting) : List know_Posting := l.filter fun p => p.id_ != id
def dropT (id : Int) : List know_Term → List know_Term
 | [] => []
 | t :: T => if keepP id t.list_ = [] then dropT id T else ⟨t.word, keepP id t.list_⟩ :: dropT id T
def dropZ (id : Int) : List Int → List Int → List Int
 | a :: l, z :: m => if a = id then dropZ id l m else z :: dropZ id l m
 | _, _ => []
def withoutL (x : know_Index) (id : Int) : know_Index := ⟨x.ids.filter (· != id), dropZ id x.ids x.sizes, dropT id x.terms⟩
theorem dropT_snoc (id : Int) (t : know_Term) : ∀ T, dropT id (T ++ [t]) = if keepP id t.list_ = [] then dropT id T else dropT id T ++ [⟨t.word, keepP id t.list_⟩]
 | [] => by simp only [List.nil_append, dropT]
 | u :: T => by
  simp only [List.cons_append, dropT, dropT_snoc id t T]
  by_cases h1 : keepP id u.list_ = []
  ·simp only [h1, if_true]
  ·by_cases h2 : keepP id t.list_ = []
   ·simp only [h1, h2, if_true, if_false]
   ·simp only [h1, h2, if_false, List.cons_append]
theorem dropZ_snoc (id a z : Int) : ∀ (l m : List Int), l.length = m.length → dropZ id (l ++ [a]) (m ++ [z]) = if a = id then dropZ id l m else dropZ id l m ++ [z]
 | [], [], _ => by simp only [List.nil_append, dropZ]
 | b :: l, y :: m, h => by
  simp only [List.cons_append, dropZ, dropZ_snoc id a z l m (by simpa using h)]
  by_cases h1 : b = id
  ·simp only [h1, if_true]
  ·by_cases h2 : a = id
   ·simp only [h1, h2, if_true, if_false]
   ·simp only [h1, h2, if_false, List.cons_append]
 | [], _ :: _, h => by simp at h
 | _ :: _, [], h => by simp at h
theorem dropT_len (id : Int) : ∀ T, (dropT id T).length ≤ T.length
 | [] => Nat.le_refl _
 | t :: T => by
  have := dropT_len id T
  unfold dropT
  split
  ·rw [List.length_cons]; omega
  ·simp only [List.length_cons]; omega
theorem dropZ_len (id : Int) : ∀ (l m : List Int), l.length = m.length → (dropZ id l m).length = (l.filter (· != id)).length
 | [], [], _ => rfl
 | b :: l, y :: m, h => by
  have := dropZ_len id l m (by simpa using h)
  unfold dropZ
  by_cases h1 : b = id
  ·rw [if_pos h1, List.filter_cons_of_neg (by simpa using h1)]; exact this
  ·rw [if_neg h1, List.filter_cons_of_pos (by simpa using h1), List.length_cons, List.length_cons, this]
 | [], _ :: _, h => by simp at h
 | _ :: _, [], h => by simp at h
theorem dropZ_none (id : Int) : ∀ (l m : List Int), l.length = m.length → id ∉ l → dropZ id l m = m
 | [], [], _, _ => rfl
 | b :: l, y :: m, h, hn => by
  rw [List.mem_cons, not_or] at hn
  unfold dropZ
  rw [if_neg (fun e => hn.1 e.symm), dropZ_none id l m (by simpa using h) hn.2]
 | [], _ :: _, h, _ => by simp at h
 | _ :: _, [], h, _ => by simp at h
theorem filter_none (id : Int) {l : List Int} (hn : id ∉ l) : l.filter (· != id) = l := List.filter_eq_self.2 fun a ha => by
 have : a ≠ id := fun e => hn (e ▸ ha)
 simpa using this
theorem drop_at {id : Int} : ∀ {l m : List Int} {a : Nat}, l.length = m.length → (∀ (i j : Nat) (a b : Int), i < j → l[i]? = some a → l[j]? = some b → a < b) → l[a]? = some id →
  l.filter (· != id) = l.take a ++ l.drop (a + 1) ∧ dropZ id l m = m.take a ++ m.drop (a + 1)
 | [], _, _, _, _, h => by simp at h
 | _ :: _, [], _, h, _, _ => by simp at h
 | b :: l, y :: m, 0, hl, hr, h => by
  obtain rfl : b = id := by simpa using h
  have hn : b ∉ l := fun hm => by
   obtain ⟨i, hi⟩ := List.mem_iff_getElem?.1 hm
   have := hr 0 (i + 1) b b (by omega) (by simp) (by simpa using hi)
   omega
  refine ⟨?_, ?_⟩
  ·rw [List.filter_cons_of_neg (by simp), filter_none b hn]; rfl
  ·unfold dropZ
   rw [if_pos rfl, dropZ_none b l m (by simpa using hl) hn]; rfl
 | b :: l, y :: m, a + 1, hl, hr, h => by
  have h' : l[a]? = some id := by simpa using h
  have hb : b < id := hr 0 (a + 1) b id (by omega) (by simp) h
  obtain ⟨e1, e2⟩ := drop_at (l := l) (m := m) (a := a) (by simpa using hl) (fun i j u v hij hu hv => hr (i + 1) (j + 1) u v (by omega) (by simpa using hu) (by simpa using hv)) h'
  refine ⟨?_, ?_⟩
  ·rw [List.filter_cons_of_pos (by simp; omega), e1]; rfl
  ·unfold dropZ
   rw [if_neg (by omega), e2]; rfl
theorem cloneI_val (l : List Int) (h : l.length ≤ 2000000) : slices_Clone_Lint_int l = some l := by
 unfold slices_Clone_Lint_int appendL
 rw [if_pos (by simp; omega)]
 rfl
theorem cloneP_val (l : List know_Posting) (h : l.length ≤ 2000000) : slices_Clone_Lknow_Posting_know_Posting l = some l := by
 unfold slices_Clone_Lknow_Posting_know_Posting appendL
 rw [if_pos (by simp; omega)]
 rfl
theorem indexP_val (s : List know_Posting) (f : know_Posting → Option Bool) (q : know_Posting → Bool) (hf : ∀ x, f x = some (q x)) : slices_IndexFunc_Lknow_Posting_know_Posting s f = some (match s.findIdx? q with | some i => (i : Int) | none => -1) := by
 unfold slices_IndexFunc_Lknow_Posting_know_Posting
 simp only [hf]
 rw [rangeB_index s q]
 cases s.findIdx? q <;> rfl
theorem indexT_val (s : List know_Term) (f : know_Term → Option Bool) (q : know_Term → Bool) (hf : ∀ x, f x = some (q x)) : slices_IndexFunc_Lknow_Term_know_Term s f = some (match s.findIdx? q with | some i => (i : Int) | none => -1) := by
 unfold slices_IndexFunc_Lknow_Term_know_Term
 simp only [hf]
 rw [rangeB_index s q]
 cases s.findIdx? q <;> rfl
theorem deleteP_val (s : List know_Posting) (hl : s.length ≤ 2000000) (f : know_Posting → Option Bool) (q : know_Posting → Bool) (hf : ∀ x, f x = some (q x)) : slices_DeleteFunc_Lknow_Posting_know_Posting s f = some (s.filter fun x => !(q x)) := by
 unfold slices_DeleteFunc_Lknow_Posting_know_Posting
 rw [indexP_val s f q hf, Option.bind_some]
 cases hfi : s.findIdx? q with
 | none =>
  rw [List.findIdx?_eq_none_iff] at hfi
  dsimp only
  rw [if_pos (by decide)]
  exact congrArg some (List.filter_eq_self.2 fun a ha => by simp [hfi a ha]).symm
 | some i0 =>
  rw [List.findIdx?_eq_some_iff_getElem] at hfi
  obtain ⟨hi0, hqi, hbe⟩ := hfi
  dsimp only
  rw [if_neg (by simp)]
  have e1 : w64 ((i0 : Int) + 1) = ((i0 + 1 : Nat) : Int) := by rw [w64_id (by omega) (by omega)]; omega
  rw [e1]
  have htk0 : (s.take (i0 + 1)).filter (fun x => !(q x)) = s.take i0 := by
   rw [List.take_add_one, List.getElem?_eq_getElem hi0, List.filter_append]
   have : (s.take i0).filter (fun x => !(q x)) = s.take i0 := List.filter_eq_self.2 fun a ha => by
    obtain ⟨j, hj, rfl⟩ := List.mem_iff_getElem.1 ha
    rw [List.length_take] at hj
    rw [List.getElem_take]
    have := hbe j (by omega)
    simp [this]
   rw [this]
   simp [hqi]
  obtain ⟨r, hr, s', i, j, rfl, g1, g2, g3⟩ := whileB_spec (R := List know_Posting) (body := fun s25 => if (decide (s25.2.2 < (s25.1.length : Int))) = true then Option.bind (Option.bind (idx s25.1 s25.2.2) fun x49 => Option.bind (f x49) fun x78 => Option.bind (if (!x78) = true then Option.bind (idx s25.1 s25.2.1) fun x98 => Option.bind (setI s25.1 s25.2.1 x49) fun x103 => some (x103, w64 (s25.2.1 + 1)) else some (s25.1, s25.2.1)) fun s83 => some (s83.1, s83.2)) fun s40 => some (.nx (s40.1, s40.2, w64 (s25.2.2 + 1))) else some (.bk (s25.1, s25.2.1, s25.2.2)))
   (fun u => ∃ i j : Nat, u.2.1 = (i : Int) ∧ u.2.2 = (j : Int) ∧ i < j ∧ j ≤ s.length ∧ u.1.length = s.length ∧ u.1.take i = (s.take j).filter (fun x => !(q x)) ∧ ∀ p, j ≤ p → u.1[p]? = s[p]?)
   (fun u => s.length - u.2.2.toNat)
   (fun r => ∃ (s' : List know_Posting) (i : Nat) (j : Int), r = .fin (s', (i : Int), j) ∧ i < s.length ∧ s'.length = s.length ∧ s'.take i = s.filter (fun x => !(q x)))
   (s := (s, (i0 : Int), ((i0 + 1 : Nat) : Int))) ⟨i0, i0 + 1, rfl, rfl, by omega, by omega, rfl, htk0.symm, fun p _ => rfl⟩ (by
    rintro ⟨u, a, b⟩ ⟨i, j, rfl, rfl, hij, hj, hul, htk, hrest⟩
    dsimp only at hul htk hrest ⊢
    by_cases hjl : j < s.length
    ·have hx : u[j]? = some s[j] := by rw [hrest j (Nat.le_refl _), List.getElem?_eq_getElem hjl]
     have hsx : s[j]? = some s[j] := List.getElem?_eq_getElem hjl
     rw [if_pos (by rw [decide_eq_true_eq]; omega), idx_nat, hx, Option.bind_some, hf, Option.bind_some]
     have ej : w64 ((j : Int) + 1) = ((j + 1 : Nat) : Int) := by rw [w64_id (by omega) (by omega)]; omega
     have ei : w64 ((i : Int) + 1) = ((i + 1 : Nat) : Int) := by rw [w64_id (by omega) (by omega)]; omega
     generalize s[j] = y at hx hsx
     have htj : s.take (j + 1) = s.take j ++ [y] := by rw [List.take_add_one, hsx]; rfl
     cases hy : q y with
     | true =>
      simp only [Bool.not_true, Bool.false_eq_true, if_false, Option.bind_some, ej]
      refine ⟨_, rfl, ⟨i, j + 1, rfl, rfl, by omega, by omega, hul, ?_, fun p hp => hrest p (by omega)⟩, by simp; omega⟩
      rw [htj, List.filter_append, htk]
      simp [hy]
     | false =>
      have hil : i < u.length := by omega
      simp only [Bool.not_false, if_true, idx_nat, List.getElem?_eq_getElem hil, Option.bind_some]
      rw [setI, if_pos ⟨by omega, by rw [Int.toNat_natCast]; exact hil⟩, Int.toNat_natCast]
      simp only [Option.bind_some, ej, ei]
      refine ⟨_, rfl, ⟨i + 1, j + 1, rfl, rfl, by omega, by omega, by simpa using hul, ?_, fun p hp => ?_⟩, by simp; omega⟩
      ·rw [htj, List.filter_append, ← htk]
       dsimp only
       rw [List.take_add_one, List.getElem?_set_self hil]
       simp [hy]
       rw [List.take_set_of_le (Nat.le_refl _)]
      ·dsimp only
       rw [List.getElem?_set_ne (by omega)]
       exact hrest p (by omega)
    ·have : j = s.length := by omega
     subst this
     rw [if_neg (by rw [decide_eq_true_eq]; omega)]
     exact ⟨_, rfl, u, i, _, rfl, by omega, hul, by rw [htk, List.take_length]⟩)
  rw [hr, Option.bind_some, Lp.andThen_fin]
  dsimp only
  unfold clearCutL
  rw [if_pos ⟨by omega, by omega⟩, Int.toNat_natCast, Option.bind_some, g3]
theorem keep_not (id : Int) (l : List know_Posting) : (l.filter fun p => !(p.id_ == id)) = keepP id l := rfl
theorem ref_without {x : know_Index} (hx : IdsOk x) (hs : Small x) (id : Int) : portref2_without x id = some (withoutL x id) := by
 unfold portref2_without
 have hlen := hx.len
 have hsz := hx.sizes
 obtain ⟨u, h1, h2⟩ := rangeB_inv (R := know_Index) (b := fun k37 s49 => Option.bind (Option.bind (idx x.ids (k37 : Int)) fun x82 => Option.bind (if (x82 != id) = true then Option.bind (idx x.sizes (k37 : Int)) fun x109 => Option.bind (appendL 17592186044416 s49.ids ([x82] : List Int)) fun x187 => Option.bind (appendL 17592186044416 s49.sizes ([x109] : List Int)) fun x199 => some (⟨x187, x199, s49.terms⟩ : know_Index) else some s49) fun s87 => some s87) fun s69 => some (.nx s69))
  x.ids.length (fun k s => s = ⟨(x.ids.take k).filter (· != id), dropZ id (x.ids.take k) (x.sizes.take k), []⟩) (s := ⟨[], [], []⟩) rfl (fun k s hk hI => by
   subst hI
   have h1 : x.ids[k]? = some x.ids[k] := List.getElem?_eq_getElem hk
   have h2 : x.sizes[k]? = some (x.sizes[k]'(by omega)) := List.getElem?_eq_getElem (by omega)
   generalize x.ids[k] = a at h1
   generalize x.sizes[k]'(by omega) = z at h2
   rw [idx_nat, h1, Option.bind_some, idx_nat, h2]
   have t1 : x.ids.take (k + 1) = x.ids.take k ++ [a] := by rw [List.take_add_one, h1]; rfl
   have t2 : x.sizes.take (k + 1) = x.sizes.take k ++ [z] := by rw [List.take_add_one, h2]; rfl
   have hll : (x.ids.take k).length = (x.sizes.take k).length := by rw [List.length_take, List.length_take]; omega
   have f1 : ((x.ids.take k).filter (· != id)).length ≤ 200 := Nat.le_trans (List.length_filter_le _ _) (by rw [List.length_take]; omega)
   have f2 := dropZ_len id _ _ hll
   rw [t1, t2, List.filter_append, dropZ_snoc id a z _ _ hll]
   by_cases ha : a = id
   ·rw [if_neg (by simpa using ha), if_pos ha]
    refine ⟨_, rfl, ?_⟩
    simp [ha]
   ·rw [if_pos (by simpa using ha), if_neg ha]
    simp only [Option.bind_some]
    unfold appendL
    rw [if_pos (by rw [List.length_singleton]; omega), Option.bind_some, if_pos (by rw [List.length_singleton]; omega)]
    refine ⟨_, rfl, ?_⟩
    simp [ha])
 rw [h1, Option.bind_some, Lp.andThen_fin, h2, List.take_length, ← hsz, List.take_length]
 obtain ⟨u, h1, h2⟩ := rangeB_inv (R := know_Index) (b := fun k231 s243 => Option.bind (Option.bind (idx x.terms (k231 : Int)) fun x276 => Option.bind (slices_Clone_Lknow_Posting_know_Posting x276.list_) fun x298 => Option.bind (slices_DeleteFunc_Lknow_Posting_know_Posting x298 (fun y305 => portref2_without_1 y305 id)) fun x306 => Option.bind (if (decide ((0 : Int) < (x306.length : Int))) = true then Option.bind (appendL 3518437208883 s243.terms ([(⟨x276.word, x306⟩ : know_Term)] : List know_Term)) fun x352 => some (⟨s243.ids, s243.sizes, x352⟩ : know_Index) else some s243) fun s326 => some s326) fun s263 => some (.nx s263))
  x.terms.length (fun k s => s = ⟨x.ids.filter (· != id), dropZ id x.ids x.sizes, dropT id (x.terms.take k)⟩) (s := ⟨x.ids.filter (· != id), dropZ id x.ids x.sizes, []⟩) rfl (fun k s hk hI => by
   subst hI
   have h1 : x.terms[k]? = some x.terms[k] := List.getElem?_eq_getElem hk
   have hl := hs.list _ (List.getElem_mem hk)
   generalize x.terms[k] = t at h1 hl
   have t1 : x.terms.take (k + 1) = x.terms.take k ++ [t] := by rw [List.take_add_one, h1]; rfl
   rw [idx_nat, h1, Option.bind_some, cloneP_val _ (by omega), Option.bind_some, deleteP_val _ (by omega) (fun y305 => portref2_without_1 y305 id) (fun p => p.id_ == id) (fun _ => rfl), keep_not, Option.bind_some, t1, dropT_snoc]
   by_cases he : keepP id t.list_ = []
   ·rw [he, if_pos rfl, if_neg (by simp)]
    exact ⟨_, rfl, rfl⟩
   ·rw [if_neg he, if_pos (by rw [decide_eq_true_eq]; have := List.length_pos_iff.2 he; omega)]
    have f1 := dropT_len id (x.terms.take k)
    have f2 := hs.terms
    rw [List.length_take] at f1
    unfold appendL
    dsimp only
    rw [if_pos (by rw [List.length_singleton]; omega), Option.bind_some]
    exact ⟨_, rfl, rfl⟩)
 rw [h1, Option.bind_some, Lp.andThen_fin, h2, List.take_length]
 rfl
theorem code_without {x : know_Index} (hx : IdsOk x) (hs : Small x) (id : Int) : know_Index_without x id = some (withoutL x id) := by
 unfold know_Index_without
 have hlen := hx.len
 have hsz := hx.sizes
 rw [cloneI_val _ (by omega), Option.bind_some, cloneI_val _ (by omega), Option.bind_some]
 obtain ⟨a, b1, b2, b3⟩ := bsearch_val (l := x.ids) (by omega) hx.rise id
 rw [b1, Option.bind_some]
 dsimp only
 have hif : (if decide (id ∈ x.ids) = true then Option.bind (deleteIntsL x.ids (a : Int) (w64 ((a : Int) + 1))) fun x807 => Option.bind (deleteIntsL x.sizes (a : Int) (w64 ((a : Int) + 1))) fun x818 => some (⟨x807, x818, ([] : (List know_Term))⟩ : know_Index) else some (⟨x.ids, x.sizes, ([] : (List know_Term))⟩ : know_Index)) = some ⟨x.ids.filter (· != id), dropZ id x.ids x.sizes, []⟩ := by
  by_cases hin : id ∈ x.ids
  ·rw [if_pos (decide_eq_true hin)]
   obtain ⟨ha, _⟩ := b2 hin
   have hal : a < x.ids.length := (List.getElem?_eq_some_iff.1 ha).1
   have ea : w64 ((a : Int) + 1) = ((a + 1 : Nat) : Int) := by rw [w64_id (by omega) (by omega)]; omega
   obtain ⟨e1, e2⟩ := drop_at (l := x.ids) (m := x.sizes) hsz.symm hx.rise ha
   rw [ea, deleteIntsL, if_pos ⟨by omega, by omega, by omega, by omega⟩, Option.bind_some, deleteIntsL, if_pos ⟨by omega, by omega, by omega, by omega⟩, Option.bind_some, Int.toNat_natCast, Int.toNat_natCast, e1, e2]
  ·rw [if_neg (by simpa using hin), filter_none id hin, dropZ_none id _ _ hsz.symm hin]
 rw [hif, Option.bind_some]
 obtain ⟨u, h1, h2⟩ := rangeB_inv (R := know_Index) (b := fun k838 s850 => Option.bind (Option.bind (idx x.terms (k838 : Int)) fun x883 => Option.bind (rangeB (R := Empty) (fun k908 s916 => Option.bind (Option.bind (idx x883.list_ (k908 : Int)) fun x941 => Option.bind (if (x941.id_ != id) = true then Option.bind (slices_Clone_Lint_int x941.title) fun x988 => Option.bind (slices_Clone_Lint_int x941.body) fun x996 => Option.bind (appendL 2513169434916 s916 ([(⟨x941.id_, x988, x996⟩ : know_Posting)] : List know_Posting)) fun x1031 => some x1031 else some s916) fun s966 => some s966) fun s932 => some (.nx s932)) x883.list_.length 0 ([] : (List know_Posting))) fun o905 => o905.andThen (fun y => y.elim) fun s906 => Option.bind (if (decide ((0 : Int) < (s906.length : Int))) = true then Option.bind (appendL 3518437208883 s850.terms ([(⟨x883.word, s906⟩ : know_Term)] : List know_Term)) fun x1075 => some (⟨s850.ids, s850.sizes, x1075⟩ : know_Index) else some s850) fun s1049 => some s1049) fun s870 => some (.nx s870))
  x.terms.length (fun k s => s = ⟨x.ids.filter (· != id), dropZ id x.ids x.sizes, dropT id (x.terms.take k)⟩) (s := ⟨x.ids.filter (· != id), dropZ id x.ids x.sizes, []⟩) rfl (fun k s hk hI => by
   subst hI
   have h1 : x.terms[k]? = some x.terms[k] := List.getElem?_eq_getElem hk
   have hm := List.getElem_mem hk
   have hl := hs.list _ hm
   have hp := hs.posts _ hm
   generalize x.terms[k] = t at h1 hl hp
   have t1 : x.terms.take (k + 1) = x.terms.take k ++ [t] := by rw [List.take_add_one, h1]; rfl
   obtain ⟨v, g1, g2⟩ := rangeB_inv (R := Empty) (b := fun k908 s916 => Option.bind (Option.bind (idx t.list_ (k908 : Int)) fun x941 => Option.bind (if (x941.id_ != id) = true then Option.bind (slices_Clone_Lint_int x941.title) fun x988 => Option.bind (slices_Clone_Lint_int x941.body) fun x996 => Option.bind (appendL 2513169434916 s916 ([(⟨x941.id_, x988, x996⟩ : know_Posting)] : List know_Posting)) fun x1031 => some x1031 else some s916) fun s966 => some s966) fun s932 => some (.nx s932))
    t.list_.length (fun k s => s = keepP id (t.list_.take k)) (s := []) rfl (fun j s hj hI => by
     subst hI
     have h1 : t.list_[j]? = some t.list_[j] := List.getElem?_eq_getElem hj
     have hp1 := hp _ (List.getElem_mem hj)
     generalize t.list_[j] = p at h1 hp1
     have t1 : t.list_.take (j + 1) = t.list_.take j ++ [p] := by rw [List.take_add_one, h1]; rfl
     rw [idx_nat, h1, Option.bind_some, t1]
     unfold keepP
     rw [List.filter_append]
     by_cases he : p.id_ = id
     ·rw [if_neg (by simpa using he)]
      exact ⟨_, rfl, by simp [he]⟩
     ·have f1 : ((t.list_.take j).filter fun p => p.id_ != id).length ≤ 1048576 := Nat.le_trans (List.length_filter_le _ _) (by rw [List.length_take]; omega)
      rw [if_pos (by simpa using he), cloneI_val _ (by omega), Option.bind_some, cloneI_val _ (by omega), Option.bind_some]
      unfold appendL
      rw [if_pos (by rw [List.length_singleton]; omega), Option.bind_some]
      exact ⟨_, rfl, by simp [he]⟩)
   rw [List.take_length] at g2
   rw [idx_nat, h1, Option.bind_some, g1, Option.bind_some, Lp.andThen_fin, g2, t1, dropT_snoc]
   by_cases he : keepP id t.list_ = []
   ·rw [he, if_pos rfl, if_neg (by simp)]
    exact ⟨_, rfl, rfl⟩
   ·rw [if_neg he, if_pos (by rw [decide_eq_true_eq]; have := List.length_pos_iff.2 he; omega)]
    have f1 := dropT_len id (x.terms.take k)
    have f2 := hs.terms
    rw [List.length_take] at f1
    unfold appendL
    dsimp only
    rw [if_pos (by rw [List.length_singleton]; omega), Option.bind_some]
    exact ⟨_, rfl, rfl⟩)
 rw [h1, Option.bind_some, Lp.andThen_fin, h2, List.take_length]
 rfl
end Go.Proofs.YtldkdabcdbgpbaaGreatDoor.M
namespace Go.Proofs.YtldkdabcdbgpbaaGreatDoor.M
open Go Go.Pu
set_option linter.unusedSimpArgs false
set_option linter.unusedVariables false
theorem sort_key {α κ : Type} (O : KeyOrd α κ) (cmp : α → α → Option Int) (hc : ∀ a b, ∃ c, cmp a b = some c ∧ (c < 0 ↔ O.lt (O.key a) (O.key b))) {m : List α} (hn : (m.map O.key).Nodup) (hl : m.length ≤ 1000000000) :
  ∃ r, sortFuncL cmp m = some r ∧ O.Rise r ∧ ∀ x, x ∈ r ↔ x ∈ m := by
 have hlt : ∀ a b, cmpLt cmp a b = true ↔ O.lt (O.key a) (O.key b) := fun a b => by
  obtain ⟨c, h1, h2⟩ := hc a b
  unfold cmpLt
  rw [h1, ← h2, decide_eq_true_eq]
 have hltf : ∀ a b, cmpLt cmp a b = false ↔ ¬ O.lt (O.key a) (O.key b) := fun a b => by rw [← hlt, Bool.not_eq_true]
 have nt : ∀ a b c, ¬ O.lt (O.key a) (O.key b) → ¬ O.lt (O.key b) (O.key c) → ¬ O.lt (O.key a) (O.key c) := fun a b c h1 h2 h3 => by
  rcases O.tot (O.key a) (O.key b) with h | h | h
  ·exact h1 h
  ·rw [h] at h3; exact h2 h3
  ·exact h2 (O.tr _ _ _ h h3)
 have hinj : ∀ x ∈ m, ∀ y ∈ m, O.key x = O.key y → x = y := fun x hx y hy e => by
  obtain ⟨i, hi, rfl⟩ := List.mem_iff_getElem.1 hx
  obtain ⟨j, hj, rfl⟩ := List.mem_iff_getElem.1 hy
  have h1 := (List.getElem_inj (xs := m.map O.key) (i := i) (j := j) (h₀ := by simpa using hi) (h₁ := by simpa using hj) hn).1 (by simpa using e)
  subst h1
  rfl
 have ok : SortOk cmp m := by
  refine ⟨by omega, fun x _ y _ => ?_, fun x _ => ?_, fun x _ y _ z _ h1 h2 => ?_, fun x _ y _ z _ h1 h2 => ?_, fun x hx y hy h1 h2 => ?_⟩
  ·obtain ⟨c, h1, _⟩ := hc x y
   exact ⟨c, h1⟩
  ·rw [hltf]; exact O.irr _
  ·rw [hlt] at *; exact O.tr _ _ _ h1 h2
  ·rw [hltf] at *; exact nt _ _ _ h1 h2
  ·rw [hltf] at h1 h2
   rcases O.tot (O.key x) (O.key y) with h | h | h
   ·exact absurd h h1
   ·exact hinj x hx y hy h
   ·exact absurd h h2
 unfold sortFuncL
 rw [if_pos ok]
 have hp := List.mergeSort_perm m fun x y => !(cmpLt cmp y x)
 have hw := List.pairwise_mergeSort (le := fun x y => !(cmpLt cmp y x)) (fun a b c h1 h2 => by
  simp only [Bool.not_eq_true', hltf] at *
  exact nt _ _ _ h2 h1) (fun a b => by
  simp only [Bool.or_eq_true, Bool.not_eq_true', hltf]
  by_cases h : O.lt (O.key b) (O.key a)
  ·exact .inr fun h2 => KeyOrd.asym h h2
  ·exact .inl h) m
 generalize m.mergeSort (fun x y => !(cmpLt cmp y x)) = r at hp hw
 refine ⟨r, rfl, ?_, fun x => hp.mem_iff⟩
 have hn2 : (r.map O.key).Nodup := (hp.map O.key).nodup_iff.2 hn
 have hn3 : r.Pairwise fun a b => O.key a ≠ O.key b := List.pairwise_map.1 hn2
 refine (hw.and hn3).imp fun {a b} h => ?_
 have h1 := h.1
 simp only [Bool.not_eq_true', hltf] at h1
 rcases O.tot (O.key a) (O.key b) with h2 | h2 | h2
 ·exact h2
 ·exact absurd h2 h.2
 ·exact absurd h2 h1
theorem KeyOrd.Rise.inj {α κ : Type} {O : KeyOrd α κ} {l : List α} (h : O.Rise l) {x y : α} (hx : x ∈ l) (hy : y ∈ l) (e : O.key x = O.key y) : x = y := by
 obtain ⟨i, hi, rfl⟩ := List.mem_iff_getElem.1 hx
 obtain ⟨j, hj, rfl⟩ := List.mem_iff_getElem.1 hy
 rcases Nat.lt_trichotomy i j with h1 | h1 | h1
 ·have := List.pairwise_iff_getElem.1 h i j hi hj h1
  rw [e] at this
  exact absurd this (O.irr _)
 ·subst h1; rfl
 ·have := List.pairwise_iff_getElem.1 h j i hj hi h1
  rw [e] at this
  exact absurd this (O.irr _)
theorem KeyOrd.Rise.nodup {α κ : Type} {O : KeyOrd α κ} {l : List α} (h : O.Rise l) : (l.map O.key).Nodup := by
 refine List.pairwise_map.2 (h.imp fun {a b} h1 e => ?_)
 rw [e] at h1
 exact O.irr _ h1
def hasT (T : List know_Term) (s : ByteArray) : Prop := ∃ t ∈ T, t.word = s
def lstT (T : List know_Term) (s : ByteArray) : List know_Posting := match T.find? fun t => decide (t.word = s) with
 | some t => t.list_
 | none => []
theorem lstT_none {T : List know_Term} {s : ByteArray} (h : ¬ hasT T s) : lstT T s = [] := by
 unfold lstT
 cases hf : T.find? fun t => decide (t.word = s) with
 | none => rfl
 | some t => exact absurd ⟨t, List.mem_of_find?_eq_some hf, by simpa using List.find?_some hf⟩ h
theorem lstT_of {T : List know_Term} (hr : wordO.Rise T) {t : know_Term} (h : t ∈ T) : lstT T t.word = t.list_ := by
 unfold lstT
 cases hf : T.find? fun u => decide (u.word = t.word) with
 | none =>
  rw [List.find?_eq_none] at hf
  exact absurd (hf t h) (by simp)
 | some u =>
  have h1 : u.word = t.word := by simpa using List.find?_some hf
  have := hr.inj (List.mem_of_find?_eq_some hf) h h1
  subst this
  rfl
theorem terms_self {T : List know_Term} (hr : wordO.Rise T) : Terms (hasT T) (lstT T) T := ⟨hr, fun t => by
 constructor
 ·intro h
  exact ⟨⟨t, h, rfl⟩, (lstT_of hr h).symm⟩
 ·rintro ⟨⟨u, hu, e⟩, h2⟩
  rw [← e, lstT_of hr hu] at h2
  have : t = u := by
   cases t; cases u
   simp only [know_Term.mk.injEq] at *
   exact ⟨e.symm, h2⟩
  rw [this]
  exact hu⟩
theorem strEq_iff (a b : ByteArray) : strEq a b = true ↔ a = b := by rw [strEq_cmp, decide_eq_true_eq]
theorem mem_put {S : List know_Term} (hn : (S.map (·.word)).Nodup) {j : Nat} {y z : know_Term} (hj : S[j]? = some y) (hw : z.word = y.word) :
  ((S.set j z).map (·.word)).Nodup ∧ ∀ t, t ∈ S.set j z ↔ t = z ∨ (t ∈ S ∧ t.word ≠ y.word) := by
 obtain ⟨hlt, hy⟩ := List.getElem?_eq_some_iff.1 hj
 refine ⟨?_, fun t => ?_⟩
 ·have : (S.set j z).map (·.word) = S.map (·.word) := by
   rw [List.map_set]
   have h1 : (S.map (·.word))[j]'(by simpa using hlt) = z.word := by rw [List.getElem_map, hy, hw]
   rw [← h1, List.set_getElem_self]
  rw [this]
  exact hn
 ·constructor
  ·intro h
   obtain ⟨i, hi, rfl⟩ := List.mem_iff_getElem.1 h
   rw [List.length_set] at hi
   by_cases e : j = i
   ·subst e
    exact .inl (by rw [List.getElem_set_self])
   ·right
    rw [List.getElem_set_ne e]
    refine ⟨List.getElem_mem hi, fun e2 => e ?_⟩
    have := (List.getElem_inj (xs := S.map (·.word)) (i := j) (j := i) (h₀ := by simpa using hlt) (h₁ := by simpa using hi) hn).1 (by rw [List.getElem_map, List.getElem_map, hy, e2])
    exact this
  ·rintro (rfl | ⟨h, hne⟩)
   ·exact List.mem_set hlt _
   ·obtain ⟨i, hi, rfl⟩ := List.mem_iff_getElem.1 h
    have e : j ≠ i := fun e => by
     subst e
     rw [hy] at hne
     exact hne rfl
    refine List.mem_iff_getElem.2 ⟨i, by simpa using hi, ?_⟩
    rw [List.getElem_set_ne e]
theorem put_sort {l : List know_Posting} {p : know_Posting} (hr : idO.Rise l) (hp : ∀ q ∈ l, q.id_ ≠ p.id_) (hl : l.length ≤ 1048576) : sortFuncL (fun y340 y341 => portref2_PutOf_2 y340 y341) (l ++ [p]) = some (idO.mrg l [p]) := by
 obtain ⟨r, h1, h2, h3⟩ := sort_key idO (fun y340 y341 => portref2_PutOf_2 y340 y341) (fun a b => ⟨_, rfl, (int_ord _ _).1⟩) (m := l ++ [p]) (by
  rw [List.map_append]
  refine List.nodup_append.2 ⟨hr.nodup, by simp, fun a ha b hb => ?_⟩
  obtain ⟨q, hq, rfl⟩ := List.mem_map.1 ha
  simp only [List.map_cons, List.map_nil, List.mem_singleton] at hb
  rw [hb]
  exact hp q hq) (by rw [List.length_append, List.length_singleton]; omega)
 rw [h1]
 have hs := KeyOrd.mrg_spec (O := idO) _ l [p] rfl hr (List.pairwise_singleton _ _)
 refine congrArg some (rise_ext (r := fun a b : know_Posting => a.id_ < b.id_) (fun a h => by omega) (fun a b c h1 h2 => by omega) h2 hs.1 fun x => ?_)
 rw [h3, hs.2, List.mem_append, List.mem_singleton]
 constructor
 ·rintro (h | h)
  ·exact .inr ⟨h, fun y hy => by rw [List.mem_singleton] at hy; rw [hy]; exact fun e => hp x h e.symm⟩
  ·exact .inl h
 ·rintro (h | h)
  ·exact .inr h
  ·exact .inl h.1
open Classical in
noncomputable def newT (T : List know_Term) (v : know_Entry) (W : List ByteArray) (s : ByteArray) : List know_Posting := if s ∈ W then idO.mrg (lstT T s) [postOf v s] else lstT T s
theorem put_loop {T : List know_Term} {v : know_Entry} (hT : wordO.Rise T) (hl : T.length ≤ 1048576) (hll : ∀ t ∈ T, t.list_.length ≤ 1048576) (hid : ∀ t ∈ T, ∀ p ∈ t.list_, p.id_ ≠ v.id_) (hri : ∀ t ∈ T, idO.Rise t.list_)
  {q : List ByteArray} (hq : Sorted q) (hql : q.length ≤ 20200) (ids sizes : List Int) :
  ∃ S, rangeB (R := know_Index × Int) (fun k198 s210 => Option.bind (Option.bind (idx (q.map fun s => (⟨s, [postOf v s]⟩ : know_Term)) (k198 : Int)) fun x243 => Option.bind (slices_IndexFunc_Lknow_Term_know_Term s210.terms (fun y264 => portref2_PutOf_1 y264 x243)) fun x265 => if (decide (x265 < 0)) = true then Option.bind (appendL 3518437208883 s210.terms ([x243] : List know_Term)) fun x291 => some (⟨s210.ids, s210.sizes, x291⟩ : know_Index) else Option.bind (idx s210.terms x265) fun x307 => Option.bind (slices_Clone_Lknow_Posting_know_Posting x307.list_) fun x320 => Option.bind (appendL 2513169434916 x320 x243.list_) fun x330 => Option.bind (sortFuncL (fun y340 y341 => portref2_PutOf_2 y340 y341) x330) fun x336 => Option.bind (setI s210.terms x265 ({ (x307 : know_Term) with list_ := x336 })) fun x371 => some (⟨s210.ids, s210.sizes, x371⟩ : know_Index)) fun s230 => some (.nx s230)) q.length 0 ⟨ids, sizes, T⟩ = some (.fin ⟨ids, sizes, S⟩) ∧
   ∃ S', sortFuncL (fun y386 y387 => portref2_PutOf_3 y386 y387) S = some S' ∧ wordO.Rise S' ∧ ∀ t, t ∈ S' ↔ (hasT T t.word ∨ t.word ∈ q) ∧ t.list_ = newT T v q t.word := by
 have hqn : q.Nodup := hq.imp fun {a b} h e => by rw [e, cmpS_self] at h; omega
 have post_id : ∀ s, (postOf v s).id_ = v.id_ := fun s => rfl
 obtain ⟨u, h1, i1, i2, i3, i4, i5⟩ := rangeB_inv (R := know_Index × Int) (b := fun k198 s210 => Option.bind (Option.bind (idx (q.map fun s => (⟨s, [postOf v s]⟩ : know_Term)) (k198 : Int)) fun x243 => Option.bind (slices_IndexFunc_Lknow_Term_know_Term s210.terms (fun y264 => portref2_PutOf_1 y264 x243)) fun x265 => if (decide (x265 < 0)) = true then Option.bind (appendL 3518437208883 s210.terms ([x243] : List know_Term)) fun x291 => some (⟨s210.ids, s210.sizes, x291⟩ : know_Index) else Option.bind (idx s210.terms x265) fun x307 => Option.bind (slices_Clone_Lknow_Posting_know_Posting x307.list_) fun x320 => Option.bind (appendL 2513169434916 x320 x243.list_) fun x330 => Option.bind (sortFuncL (fun y340 y341 => portref2_PutOf_2 y340 y341) x330) fun x336 => Option.bind (setI s210.terms x265 ({ (x307 : know_Term) with list_ := x336 })) fun x371 => some (⟨s210.ids, s210.sizes, x371⟩ : know_Index)) fun s230 => some (.nx s230))
  q.length (fun k s => s.ids = ids ∧ s.sizes = sizes ∧ (s.terms.map (·.word)).Nodup ∧ (∀ t, t ∈ s.terms ↔ (hasT T t.word ∨ t.word ∈ q.take k) ∧ t.list_ = newT T v (q.take k) t.word) ∧ s.terms.length ≤ T.length + k) (s := ⟨ids, sizes, T⟩)
  ⟨rfl, rfl, hT.nodup, fun t => by
   rw [(terms_self hT).mem t]
   unfold newT
   simp, Nat.le_add_right _ _⟩ (by
   rintro k ⟨a, b, S⟩ hk ⟨rfl, rfl, hn, hm, hSl⟩
   dsimp only at hn hm hSl ⊢
   have hx : q[k]? = some q[k] := List.getElem?_eq_getElem hk
   have hnk : q[k] ∉ q.take k := fun h => by
    obtain ⟨i, hi, e⟩ := List.mem_iff_getElem.1 h
    rw [List.length_take] at hi
    rw [List.getElem_take] at e
    have := (List.getElem_inj (xs := q) (i := i) (j := k) (h₀ := by omega) (h₁ := hk) hqn).1 e
    omega
   have htk : q.take (k + 1) = q.take k ++ [q[k]] := by rw [List.take_add_one, hx]; rfl
   rw [htk]
   generalize q[k] = w at hx hnk
   generalize q.take k = W at hm hnk
   have hix : idx (q.map fun s => (⟨s, [postOf v s]⟩ : know_Term)) (k : Int) = some ⟨w, [postOf v w]⟩ := by rw [idx_nat, List.getElem?_map, hx]; rfl
   have hnew : newT T v W w = lstT T w := by unfold newT; rw [if_neg hnk]
   have hnew2 : newT T v (W ++ [w]) w = idO.mrg (lstT T w) [postOf v w] := by unfold newT; rw [if_pos (List.mem_append_right _ (List.mem_singleton.2 rfl))]
   have hnew3 : ∀ s, s ≠ w → newT T v (W ++ [w]) s = newT T v W s := fun s hs => by
    have : s ∈ W ++ [w] ↔ s ∈ W := by rw [List.mem_append, List.mem_singleton]; exact ⟨fun h => h.resolve_right hs, .inl⟩
    unfold newT
    by_cases h : s ∈ W
    ·rw [if_pos h, if_pos (this.2 h)]
    ·rw [if_neg h, if_neg fun h2 => h (this.1 h2)]
   rw [hix, Option.bind_some, indexT_val S (fun y264 => portref2_PutOf_1 y264 ⟨w, [postOf v w]⟩) (fun y => strEq y.word w) (fun _ => rfl), Option.bind_some]
   cases hfi : S.findIdx? (fun y => strEq y.word w) with
   | none =>
    rw [List.findIdx?_eq_none_iff] at hfi
    have hnw : ∀ t ∈ S, t.word ≠ w := fun t ht e => by
     have := hfi t ht
     rw [(strEq_iff _ _).2 e] at this
     cases this
    have hno : ¬ hasT T w := fun h => hnw ⟨w, newT T v W w⟩ ((hm _).2 ⟨.inl h, rfl⟩) rfl
    dsimp only
    rw [if_pos (by decide)]
    unfold appendL
    rw [if_pos (by rw [List.length_singleton]; omega), Option.bind_some]
    refine ⟨_, rfl, rfl, rfl, ?_, fun t => ?_, by simp; omega⟩
    ·dsimp only
     rw [List.map_append]
     refine List.nodup_append.2 ⟨hn, by simp, fun a ha b hb => ?_⟩
     obtain ⟨t, ht, rfl⟩ := List.mem_map.1 ha
     simp only [List.map_cons, List.map_nil, List.mem_singleton] at hb
     rw [hb]
     exact hnw t ht
    ·dsimp only
     rw [List.mem_append, List.mem_singleton, hm]
     by_cases e : t.word = w
     ·rw [e, hnew2, lstT_none hno, KeyOrd.mrg_nil]
      constructor
      ·rintro (⟨h2, _⟩ | h2)
       ·exact absurd h2 (by rintro (h3 | h3); exact hno h3; exact hnk h3)
       ·rw [h2]; simp
      ·rintro ⟨_, h2⟩
       right
       cases t
       simp only at e h2
       rw [e, h2]
     ·rw [hnew3 _ e]
      constructor
      ·rintro (⟨h2, h3⟩ | h2)
       ·exact ⟨h2.imp id fun h => List.mem_append_left _ h, h3⟩
       ·rw [h2] at e; exact absurd rfl e
      ·rintro ⟨h2, h3⟩
       refine .inl ⟨h2.imp id fun h => ?_, h3⟩
       rcases List.mem_append.1 h with h | h
       ·exact h
       ·exact absurd (List.mem_singleton.1 h) e
   | some j =>
    rw [List.findIdx?_eq_some_iff_getElem] at hfi
    obtain ⟨hj, hjq, _⟩ := hfi
    have hjw := (strEq_iff _ _).1 hjq
    have hjs : S[j]? = some S[j] := List.getElem?_eq_getElem hj
    have hjm := List.getElem_mem hj
    generalize S[j] = y at hjw hjs hjm
    obtain ⟨y1, y2⟩ := (hm y).1 hjm
    rw [hjw] at y1 y2
    have hhas : hasT T w := y1.resolve_right hnk
    obtain ⟨t0, ht0, et0⟩ := hhas
    have hl0 : lstT T w = t0.list_ := by rw [← et0]; exact lstT_of hT ht0
    rw [hnew, hl0] at y2
    dsimp only
    rw [if_neg (by rw [decide_eq_true_eq]; omega), idx_nat, hjs, Option.bind_some, y2, cloneP_val _ (by have := hll t0 ht0; omega), Option.bind_some]
    unfold appendL
    rw [if_pos (by have := hll t0 ht0; rw [List.length_singleton]; omega), Option.bind_some, put_sort (hri t0 ht0) (fun p hp => by rw [post_id]; exact hid t0 ht0 p hp) (hll t0 ht0), Option.bind_some]
    rw [setI, if_pos ⟨by omega, by rw [Int.toNat_natCast]; exact hj⟩, Int.toNat_natCast]
    obtain ⟨g1, g2⟩ := mem_put hn hjs (z := { (y : know_Term) with list_ := idO.mrg t0.list_ [postOf v w] }) rfl
    refine ⟨_, rfl, rfl, rfl, g1, fun t => ?_, by simp; omega⟩
    dsimp only
    rw [g2, hjw, hm]
    by_cases e : t.word = w
    ·rw [e, hnew2, hl0]
     constructor
     ·rintro (h2 | ⟨_, h2⟩)
      ·rw [h2]; exact ⟨.inl ⟨t0, ht0, et0⟩, rfl⟩
      ·exact absurd rfl h2
     ·rintro ⟨_, h2⟩
      left
      cases t
      cases y
      simp only at e h2 hjw
      rw [e, h2, hjw]
    ·rw [hnew3 _ e]
     constructor
     ·rintro (h2 | ⟨⟨h2, h3⟩, _⟩)
      ·rw [h2] at e; exact absurd hjw e
      ·exact ⟨h2.imp id fun h => List.mem_append_left _ h, h3⟩
     ·rintro ⟨h2, h3⟩
      refine .inr ⟨⟨h2.imp id fun h => ?_, h3⟩, e⟩
      rcases List.mem_append.1 h with h | h
      ·exact h
      ·exact absurd (List.mem_singleton.1 h) e)
 obtain ⟨a, b, S⟩ := u
 dsimp only at i1 i2 i3 i4 i5
 subst i1
 subst i2
 rw [List.take_length] at i4
 refine ⟨S, h1, ?_⟩
 obtain ⟨r, r1, r2, r3⟩ := sort_key wordO (fun y386 y387 => portref2_PutOf_3 y386 y387) (fun a b => ⟨_, rfl, Iff.rfl⟩) (m := S) i3 (by omega)
 exact ⟨r, r1, r2, fun t => by rw [r3, i4]⟩
end Go.Proofs.YtldkdabcdbgpbaaGreatDoor.M
