import Derived.Test.YtldkdabcdbgpbaaGreatDoorIndexChangesKxB
namespace Go.Proofs.YtldkdabcdbgpbaaGreatDoor.M
open Go Go.Pu
set_option linter.unusedSimpArgs false
set_option linter.unusedVariables false
theorem cmpS_tot (a b : ByteArray) : cmpS a b < 0 ∨ a = b ∨ cmpS b a < 0 := by
 have h1 := cmpS_swap a b
 have h2 := cmpS_zero a b
 by_cases h : cmpS a b = 0
 ·exact .inr (.inl (h2.1 h))
 ·omega
def wordO : KeyOrd know_Term ByteArray := ⟨fun t => t.word, fun a b => cmpS a b < 0, fun a h => by rw [cmpS_self] at h; omega, fun _ _ _ h1 h2 => cmpS_trans h1 h2, cmpS_tot⟩
def idO : KeyOrd know_Posting Int := ⟨fun p => p.id_, fun a b => a < b, fun a h => by omega, fun _ _ _ h1 h2 => by omega, fun a b => by omega⟩
structure Terms (has : ByteArray → Prop) (lst : ByteArray → List know_Posting) (T : List know_Term) : Prop where
 rise : wordO.Rise T
 mem : ∀ t : know_Term, t ∈ T ↔ has t.word ∧ t.list_ = lst t.word
theorem Terms.uniq {has : ByteArray → Prop} {lst : ByteArray → List know_Posting} {T T' : List know_Term} (h : Terms has lst T) (h' : Terms has lst T') : T = T' :=
 rise_ext (r := fun a b : know_Term => cmpS a.word b.word < 0) (fun a h => by rw [cmpS_self] at h; omega) (fun _ _ _ h1 h2 => cmpS_trans h1 h2) h.rise h'.rise fun x => by rw [h.mem, h'.mem]
theorem Terms.cong {has has' : ByteArray → Prop} {lst lst' : ByteArray → List know_Posting} {T : List know_Term} (h : Terms has lst T) (e1 : ∀ s, has s ↔ has' s) (e2 : ∀ s, has s → lst s = lst' s) : Terms has' lst' T :=
 ⟨h.rise, fun t => by
  rw [h.mem]
  constructor
  ·rintro ⟨h1, h2⟩
   exact ⟨(e1 _).1 h1, h2.trans (e2 _ h1)⟩
  ·rintro ⟨h1, h2⟩
   exact ⟨(e1 _).2 h1, h2.trans (e2 _ ((e1 _).2 h1)).symm⟩⟩
theorem byWord_val (a b : know_Term) : know_byWord a b = some (cmpS a.word b.word) := rfl
theorem compare_ii (x y : Int) : cmp_Compare_int x y = (if x < y then -1 else if y < x then 1 else 0) := by
 unfold cmp_Compare_int cmp_isNaN_int
 simp
theorem int_ord (a b : Int) : (cmp_Compare_int a b < 0 ↔ a < b) ∧ (cmp_Compare_int a b = 0 ↔ a = b) := by
 rw [compare_ii]
 by_cases h1 : a < b
 ·rw [if_pos h1]; omega
 ·rw [if_neg h1]
  by_cases h2 : b < a
  ·rw [if_pos h2]; omega
  ·rw [if_neg h2]; omega
theorem mergeP_val (a b : List know_Posting) (h : a.length + b.length ≤ 2513169434916) : know_merged_know_Posting a b (fun y136 y137 => know_byId y136 y137) = some (idO.mrg a b) := by
 obtain ⟨s6, y, h1, h2, h3⟩ := merge_loop (R := List know_Posting) idO (fun y136 y137 => know_byId y136 y137) 2513169434916 (fun a b => ⟨_, rfl, int_ord a.id_ b.id_⟩) a b h _ fun s => rfl
 unfold know_merged_know_Posting
 rw [h1, Option.bind_some, Lp.andThen_fin, h2, Option.bind_some, h3]
 rfl
theorem mergeT_val (a b : List know_Term) (h : a.length + b.length ≤ 3518437208883) : know_merged_know_Term a b (fun y264 y265 => know_byWord y264 y265) = some (wordO.mrg a b) := by
 obtain ⟨s6, y, h1, h2, h3⟩ := merge_loop (R := List know_Term) wordO (fun y264 y265 => know_byWord y264 y265) 3518437208883 (fun a b => ⟨_, byWord_val a b, Iff.rfl, cmpS_zero a.word b.word⟩) a b h _ fun s => rfl
 unfold know_merged_know_Term
 rw [h1, Option.bind_some, Lp.andThen_fin, h2, Option.bind_some, h3]
 rfl
theorem bfind_val {T : List know_Term} (hT : wordO.Rise T) (hl : T.length ≤ 2000000000000000000) (t : know_Term) : ∃ (a : Nat) (b : Bool), slices_BinarySearchFunc_Lknow_Term_know_Term_know_Term T t (fun y90 y91 => know_byWord y90 y91) = some ((a : Int), b) ∧ (b = true → ∃ u, T[a]? = some u ∧ u.word = t.word) ∧ (b = false → ∀ u ∈ T, u.word ≠ t.word) := by
 have hT2 : ∀ (p q : Nat) (x y : know_Term), p < q → T[p]? = some x → T[q]? = some y → cmpS x.word y.word < 0 := fun p q x y hpq hx hy => by
  obtain ⟨hp, rfl⟩ := List.getElem?_eq_some_iff.1 hx
  obtain ⟨hq, rfl⟩ := List.getElem?_eq_some_iff.1 hy
  exact List.pairwise_iff_getElem.1 hT p q hp hq hpq
 obtain ⟨a, ha, ho, hlo, hhi⟩ := search_loop (R := Int × Bool) hl (fun x => some (decide (cmpS x.word t.word < 0))) (fun x => decide (cmpS x.word t.word < 0)) (fun _ _ => rfl) (fun p q x y hpq hx hy hd => by
  rw [decide_eq_true_eq] at hd ⊢
  exact cmpS_trans (hT2 p q x y hpq hx hy) hd)
  (fun s20 => if (decide (s20.1 < s20.2)) = true then Option.bind (Option.bind (shr .u64 (IntKind.wrap .u64 (w64 (s20.1 + s20.2))) 1) fun x40 => Option.bind (idx T (IntKind.wrap .i64 x40)) fun x41 => Option.bind (know_byWord x41 t) fun x51 => Option.bind (if (decide (x51 < 0)) = true then some (w64 ((IntKind.wrap .i64 x40) + 1), s20.2) else some (s20.1, IntKind.wrap .i64 x40)) fun s56 => some (s56.1, s56.2)) fun s33 => some (.nx (s33.1, s33.2)) else some (.bk (s20.1, s20.2)))
  (fun s => by
   split
   ·cases shr .u64 (IntKind.wrap .u64 (w64 (s.1 + s.2))) 1 with
    | none => rfl
    | some v =>
     simp only [Option.bind_some]
     cases idx T (IntKind.wrap .i64 v) with
     | none => rfl
     | some x =>
      simp only [Option.bind_some, byWord_val]
      split <;> rfl
   ·rfl)
 unfold slices_BinarySearchFunc_Lknow_Term_know_Term_know_Term
 rw [ho, Option.bind_some, Lp.andThen_fin]
 dsimp only
 by_cases hlt : a < T.length
 ·rw [if_pos (decide_eq_true (show (a : Int) < (T.length : Int) by omega)), idx_nat, List.getElem?_eq_getElem hlt]
  simp only [Option.bind_some, byWord_val]
  refine ⟨a, _, rfl, fun h => ⟨T[a], List.getElem?_eq_getElem hlt, (cmpS_zero _ _).1 (by simpa using h)⟩, fun h u hu e => ?_⟩
  have h0 : cmpS T[a].word t.word ≠ 0 := by simpa using h
  have h1 := hhi a T[a] (Nat.le_refl _) (List.getElem?_eq_getElem hlt)
  have h2 : ¬ cmpS T[a].word t.word < 0 := by simpa using h1
  obtain ⟨i, hi, rfl⟩ := List.mem_iff_getElem.1 hu
  have e0 : cmpS T[i].word t.word = 0 := by rw [e]; exact cmpS_self _
  rcases Nat.lt_trichotomy i a with h3 | rfl | h3
  ·have := hlo i T[i] h3 (List.getElem?_eq_getElem hi)
   rw [decide_eq_true_eq] at this
   omega
  ·exact h0 e0
  ·have h4 := hT2 a i T[a] T[i] h3 (List.getElem?_eq_getElem hlt) (List.getElem?_eq_getElem hi)
   rw [e] at h4
   exact h2 h4
 ·rw [if_neg (by simp; omega)]
  refine ⟨a, false, rfl, (fun h => by cases h), fun _ u hu e => ?_⟩
  obtain ⟨i, hi, rfl⟩ := List.mem_iff_getElem.1 hu
  have := hlo i T[i] (by omega) (List.getElem?_eq_getElem hi)
  rw [decide_eq_true_eq, e, cmpS_self] at this
  omega
theorem bint_val {l : List Int} (hl : l.length ≤ 2000000000000000000) (hs : l.Pairwise (· < ·)) (v : Int) : ∃ (a : Nat) (b : Bool), slices_BinarySearch_Lint_int l v = some ((a : Int), b) ∧ a ≤ l.length ∧ (∀ q x, q < a → l[q]? = some x → x < v) ∧ (∀ q x, a ≤ q → l[q]? = some x → v ≤ x) ∧ (b = true ↔ v ∈ l) := by
 have hs2 : ∀ (p q : Nat) (x y : Int), p < q → l[p]? = some x → l[q]? = some y → x < y := fun p q x y hpq hx hy => by
  obtain ⟨hp, rfl⟩ := List.getElem?_eq_some_iff.1 hx
  obtain ⟨hq, rfl⟩ := List.getElem?_eq_some_iff.1 hy
  exact List.pairwise_iff_getElem.1 hs p q hp hq hpq
 have less : ∀ a b : Int, cmp_Less_int a b = decide (a < b) := fun a b => by
  unfold cmp_Less_int
  by_cases h : a < b <;> simp [h, cmp_isNaN_int]
 obtain ⟨a, ha, ho, hlo, hhi⟩ := search_loop (R := Int × Bool) hl (fun x => some (decide (x < v))) (fun x => decide (x < v)) (fun _ _ => rfl) (fun p q x y hpq hx hy hd => by
  rw [decide_eq_true_eq] at hd ⊢
  have := hs2 p q x y hpq hx hy
  omega)
  (fun s10 => if (decide (s10.1 < s10.2)) = true then Option.bind (Option.bind (shr .u64 (IntKind.wrap .u64 (w64 (s10.1 + s10.2))) 1) fun x26 => Option.bind (idx l (IntKind.wrap .i64 x26)) fun x27 => Option.bind (if (cmp_Less_int x27 v) = true then some (w64 ((IntKind.wrap .i64 x26) + 1), s10.2) else some (s10.1, IntKind.wrap .i64 x26)) fun s32 => some (s32.1, s32.2)) fun s21 => some (.nx (s21.1, s21.2)) else some (.bk (s10.1, s10.2)))
  (fun s => by
   split
   ·cases shr .u64 (IntKind.wrap .u64 (w64 (s.1 + s.2))) 1 with
    | none => rfl
    | some v =>
     simp only [Option.bind_some]
     cases idx l (IntKind.wrap .i64 v) with
     | none => rfl
     | some x =>
      simp only [Option.bind_some, less]
      split <;> rfl
   ·rfl)
 unfold slices_BinarySearch_Lint_int
 rw [ho, Option.bind_some, Lp.andThen_fin]
 dsimp only
 have up : ∀ q x, a ≤ q → l[q]? = some x → v ≤ x := fun q x h1 h2 => by
  have := hhi q x h1 h2
  rw [decide_eq_false_iff_not] at this
  omega
 have low : ∀ q x, q < a → l[q]? = some x → x < v := fun q x h1 h2 => by
  have := hlo q x h1 h2
  rwa [decide_eq_true_eq] at this
 by_cases hlt : a < l.length
 ·rw [if_pos (decide_eq_true (show (a : Int) < (l.length : Int) by omega)), idx_nat, List.getElem?_eq_getElem hlt]
  simp only [Option.bind_some]
  by_cases he : l[a] = v
  ·have : (l[a] == v) = true := by simpa using he
   simp only [this, if_true, Option.bind_some]
   exact ⟨a, true, rfl, ha, low, up, fun _ => by rw [← he]; exact List.getElem_mem hlt, fun _ => rfl⟩
  ·have : (l[a] == v) = false := by simpa using he
   simp only [this, Bool.false_eq_true, if_false, Option.bind_some, slices_isNaN_int, bne_self_eq_false, Bool.and_self]
   refine ⟨a, false, rfl, ha, low, up, (fun h => by cases h), fun hv => ?_⟩
   exfalso
   obtain ⟨i, hi, rfl⟩ := List.mem_iff_getElem.1 hv
   rcases Nat.lt_trichotomy i a with h3 | rfl | h3
   ·have := low i _ h3 (List.getElem?_eq_getElem hi); omega
   ·exact he rfl
   ·have := hs2 a i _ _ h3 (List.getElem?_eq_getElem hlt) (List.getElem?_eq_getElem hi)
    have := up a _ (Nat.le_refl _) (List.getElem?_eq_getElem hlt)
    omega
 ·rw [if_neg (by simp; omega)]
  refine ⟨a, false, rfl, ha, low, up, (fun h => by cases h), fun hv => ?_⟩
  exfalso
  obtain ⟨i, hi, rfl⟩ := List.mem_iff_getElem.1 hv
  have := low i _ (by omega) (List.getElem?_eq_getElem hi)
  omega
open Classical in
theorem with_val {x : know_Index} {v : know_Entry} {has : ByteArray → Prop} {lst : ByteArray → List know_Posting} (hT : Terms has lst x.terms) (hz : ∀ s, ¬ has s → lst s = []) (hids : x.ids.Pairwise (· < ·)) (hl : x.terms.length ≤ 1000000000) (hll : ∀ t ∈ x.terms, t.list_.length ≤ 1000000000) (hil : x.ids.length ≤ 1000000) (hsl : x.sizes.length = x.ids.length)
  (ht : v.title.size ≤ 200) (hb : v.body.size ≤ 20000) :
  ∃ (k : Nat) (T' : List know_Term), k ≤ x.ids.length ∧ (∀ q a, q < k → x.ids[q]? = some a → a < v.id_) ∧ (∀ q a, k ≤ q → x.ids[q]? = some a → v.id_ ≤ a) ∧
   know_Index_with x v = some ⟨x.ids.take k ++ [v.id_] ++ x.ids.drop k, x.sizes.take k ++ [((stemsL v.title).length : Int) + ((stemsL v.body).length : Int)] ++ x.sizes.drop k, T'⟩ ∧
   Terms (fun s => has s ∨ hasS v s) (fun s => if hasS v s then idO.mrg (lst s) [postOf v s] else lst s) T' ∧ T'.length ≤ x.terms.length + 20200 := by
 obtain ⟨q, hp, hq1, hq2, hq3⟩ := postings_val v ht hb
 obtain ⟨k, b, hk, hk1, hk2, hk3, _⟩ := bint_val (l := x.ids) (by omega) hids v.id_
 let F : know_Term → know_Term := fun t => if has t.word then ⟨t.word, idO.mrg (lst t.word) t.list_⟩ else t
 have hF : ∀ s, F ⟨s, [postOf v s]⟩ = ⟨s, idO.mrg (lst s) [postOf v s]⟩ := fun s => by
  show (if has s then (⟨s, idO.mrg (lst s) [postOf v s]⟩ : know_Term) else ⟨s, [postOf v s]⟩) = _
  split
  ·rfl
  ·rename_i h
   rw [hz s h, KeyOrd.mrg_nil]
 have hLl : (q.map fun s => (⟨s, [postOf v s]⟩ : know_Term)).length = q.length := List.length_map _
 obtain ⟨L', hL, hL2⟩ := rangeB_inv (R := know_Index) (b := fun k35 s43 => Option.bind (Option.bind (idx s43 (k35 : Int)) fun x68 => Option.bind (slices_BinarySearchFunc_Lknow_Term_know_Term_know_Term x.terms x68 (fun y90 y91 => know_byWord y90 y91)) fun x92 => Option.bind (if x92.2 = true then Option.bind (idx x.terms x92.1) fun x124 => Option.bind (know_merged_know_Posting x124.list_ x68.list_ (fun y136 y137 => know_byId y136 y137)) fun x138 => Option.bind (setI s43 (k35 : Int) ({ (x68 : know_Term) with list_ := x138 })) fun x176 => some x176 else some s43) fun s111 => some s111) fun s59 => some (.nx s59))
  q.length (fun k s => s = (q.take k).map (fun s => F ⟨s, [postOf v s]⟩) ++ (q.drop k).map fun s => (⟨s, [postOf v s]⟩ : know_Term)) (s := q.map fun s => (⟨s, [postOf v s]⟩ : know_Term)) (by simp) (fun k s hk hs => by
  subst hs
  have hx : q[k]? = some q[k] := List.getElem?_eq_getElem hk
  have hd : q.drop k = q[k] :: q.drop (k + 1) := List.drop_eq_getElem_cons hk
  have htk : q.take (k + 1) = q.take k ++ [q[k]] := by rw [List.take_add_one, hx]; rfl
  rw [hd, htk]
  generalize q[k] = s at hx
  have hlen : ((q.take k).map (fun s => F ⟨s, [postOf v s]⟩)).length = k := by rw [List.length_map, List.length_take]; omega
  have hix : idx ((q.take k).map (fun s => F ⟨s, [postOf v s]⟩) ++ (s :: q.drop (k + 1)).map fun s => (⟨s, [postOf v s]⟩ : know_Term)) (k : Int) = some ⟨s, [postOf v s]⟩ := by
   rw [idx_nat, List.getElem?_append_right (by omega), hlen, Nat.sub_self]
   rfl
  have hset : ∀ y : know_Term, setI ((q.take k).map (fun s => F ⟨s, [postOf v s]⟩) ++ (s :: q.drop (k + 1)).map fun s => (⟨s, [postOf v s]⟩ : know_Term)) (k : Int) y = some ((q.take k).map (fun s => F ⟨s, [postOf v s]⟩) ++ y :: (q.drop (k + 1)).map fun s => (⟨s, [postOf v s]⟩ : know_Term)) := fun y => by
   have hlt : k < ((q.take k).map (fun s => F ⟨s, [postOf v s]⟩) ++ (s :: q.drop (k + 1)).map fun s => (⟨s, [postOf v s]⟩ : know_Term)).length := by
    rw [List.length_append, hlen]
    simp
   rw [setI, if_pos ⟨by omega, by rw [Int.toNat_natCast]; exact hlt⟩, Int.toNat_natCast, List.set_append_right _ _ (by omega), hlen, Nat.sub_self]
   rfl
  obtain ⟨a, b, hb1, hb2, hb3⟩ := bfind_val hT.rise (by omega) ⟨s, [postOf v s]⟩
  rw [hix, Option.bind_some, hb1, Option.bind_some]
  dsimp only
  cases b with
  | true =>
   obtain ⟨u, hu, hw⟩ := hb2 rfl
   dsimp only at hw
   have hum := List.mem_of_getElem? hu
   obtain ⟨g1, g2⟩ := (hT.mem u).1 hum
   rw [hw] at g1 g2
   rw [if_pos rfl, idx_nat, hu, Option.bind_some, mergeP_val _ _ (by have := hll u hum; simp; omega), Option.bind_some, hset]
   refine ⟨_, rfl, ?_⟩
   rw [List.map_append, List.append_assoc]
   congr 1
   show _ :: _ = F ⟨s, [postOf v s]⟩ :: _
   rw [hF, g2]
   rfl
  | false =>
   rw [if_neg (by decide)]
   refine ⟨_, rfl, ?_⟩
   have hno : ¬ has s := fun h => hb3 rfl ⟨s, lst s⟩ ((hT.mem _).2 ⟨h, rfl⟩) rfl
   rw [List.map_append, List.append_assoc]
   congr 1
   show _ :: _ = F ⟨s, [postOf v s]⟩ :: _
   rw [hF, hz s hno, KeyOrd.mrg_nil]
   rfl)
 rw [List.take_length, List.drop_length, List.map_nil, List.append_nil] at hL2
 have hL3 : L' = q.map fun s => (⟨s, idO.mrg (lst s) [postOf v s]⟩ : know_Term) := by
  rw [hL2]
  exact List.map_congr_left fun s _ => hF s
 have hLr : wordO.Rise L' := by
  rw [hL3]
  show List.Pairwise _ _
  rw [List.pairwise_map]
  exact hq1
 have hspec := KeyOrd.mrg_spec (O := wordO) _ x.terms L' rfl hT.rise hLr
 have hmlen := KeyOrd.mrg_len (O := wordO) _ x.terms L' rfl
 have hLlen : L'.length = q.length := by rw [hL3, List.length_map]
 refine ⟨k, wordO.mrg x.terms L', hk1, hk2, hk3, ?_, ⟨hspec.1, fun t => ?_⟩, by omega⟩
 ·unfold know_Index_with
  rw [hp, Option.bind_some]
  dsimp only
  rw [hLl, hL, Option.bind_some, Lp.andThen_fin, hk, Option.bind_some]
  have hc : ∀ l : List Int, l.length ≤ 1000000 → slices_Clone_Lint_int l = some l := fun l h => by
   unfold slices_Clone_Lint_int appendL
   rw [if_pos (by simp; omega)]
   rfl
  have hi : ∀ (l : List Int) (z : Int), l.length = x.ids.length → slices_Insert_Lint_int l (k : Int) [z] = some (l.take k ++ [z] ++ l.drop k) := fun l z h => by
   unfold slices_Insert_Lint_int
   rw [if_pos ⟨by omega, by omega, by simp, by rw [List.length_singleton]; omega⟩, Int.toNat_natCast]
  dsimp only
  rw [hc _ hil, Option.bind_some, hi _ _ rfl, Option.bind_some, hc _ (by omega), Option.bind_some, hi _ _ hsl, Option.bind_some, mergeT_val _ _ (by omega), Option.bind_some]
 ·rw [hspec.2]
  have hmem : t ∈ L' ↔ hasS v t.word ∧ t.list_ = idO.mrg (lst t.word) [postOf v t.word] := by
   rw [hL3, List.mem_map]
   constructor
   ·rintro ⟨s, hs, rfl⟩
    exact ⟨(hq2 s).1 hs, rfl⟩
   ·rintro ⟨h1, h2⟩
    exact ⟨t.word, (hq2 _).2 h1, by rw [← h2]⟩
  have hno : (∀ y ∈ L', wordO.key y ≠ wordO.key t) ↔ ¬ hasS v t.word := by
   constructor
   ·intro h1 h2
    exact h1 ⟨t.word, idO.mrg (lst t.word) [postOf v t.word]⟩ (by rw [hL3]; exact List.mem_map.2 ⟨t.word, (hq2 _).2 h2, rfl⟩) rfl
   ·intro h1 y hy e
    rw [hL3] at hy
    obtain ⟨s, hs, rfl⟩ := List.mem_map.1 hy
    have e2 : s = t.word := e
    rw [← e2] at h1
    exact h1 ((hq2 s).1 hs)
  rw [hmem, hno, hT.mem]
  by_cases hh : hasS v t.word
  ·simp [hh]
  ·simp [hh]
end Go.Proofs.YtldkdabcdbgpbaaGreatDoor.M
namespace Go.Proofs.YtldkdabcdbgpbaaGreatDoor.M
open Go Go.Pu
set_option linter.unusedSimpArgs false
set_option linter.unusedVariables false
open Classical in
noncomputable def pairsOf (l : List know_Entry) (s : ByteArray) : List (Int × know_Posting) := (l.filter fun v => decide (hasS v s)).map fun v => (v.id_, postOf v s)
noncomputable def lstOf (l : List know_Entry) (s : ByteArray) : List know_Posting := (pairsOf l s).map (·.2)
def anyS (l : List know_Entry) (s : ByteArray) : Prop := ∃ v ∈ l, hasS v s
theorem pairs_snoc (l : List know_Entry) (v : know_Entry) (s : ByteArray) : pairsOf (l ++ [v]) s = pairsOf l s ++ (if postE (postOf v s) then [] else [(v.id_, postOf v s)]) := by
 unfold pairsOf
 rw [List.filter_append, List.map_append]
 congr 1
 by_cases h : postE (postOf v s)
 ·have h2 : ¬ hasS v s := fun e => e h
  rw [if_pos h]
  simp [h2]
 ·have h2 : hasS v s := h
  rw [if_neg h]
  simp [h2]
theorem lst_snoc (l : List know_Entry) (v : know_Entry) (s : ByteArray) : lstOf (l ++ [v]) s = lstOf l s ++ (if postE (postOf v s) then [] else [postOf v s]) := by
 unfold lstOf
 rw [pairs_snoc, List.map_append]
 congr 1
 split <;> rfl
theorem pairs_len (l : List know_Entry) (s : ByteArray) : (pairsOf l s).length ≤ l.length := by
 unfold pairsOf
 rw [List.length_map]
 exact List.length_filter_le _ _
theorem lst_len (l : List know_Entry) (s : ByteArray) : (lstOf l s).length ≤ l.length := by
 unfold lstOf
 rw [List.length_map]
 exact pairs_len l s
theorem pairs_nil {l : List know_Entry} {s : ByteArray} : pairsOf l s = [] ↔ ¬ anyS l s := by
 unfold pairsOf anyS
 rw [List.map_eq_nil_iff, List.filter_eq_nil_iff]
 simp
theorem lst_nil {l : List know_Entry} {s : ByteArray} (h : ¬ anyS l s) : lstOf l s = [] := by
 unfold lstOf
 rw [pairs_nil.2 h]
 rfl
theorem pairs_id {l : List know_Entry} {s : ByteArray} {p : Int × know_Posting} (h : p ∈ pairsOf l s) : ∃ v ∈ l, p.1 = v.id_ ∧ p.2 = postOf v s := by
 unfold pairsOf at h
 obtain ⟨v, hv, rfl⟩ := List.mem_map.1 h
 exact ⟨v, (List.mem_filter.1 hv).1, rfl, rfl⟩
theorem lst_rise {l : List know_Entry} (hl : l.Pairwise fun a b => a.id_ < b.id_) (s : ByteArray) : (lstOf l s).Pairwise fun a b : know_Posting => a.id_ < b.id_ := by
 unfold lstOf pairsOf
 rw [List.map_map, List.pairwise_map]
 exact hl.filter _
theorem mapGet_app {κ α : Type} [DecidableEq κ] {l m : List (κ × α)} {k : κ} (h : ∀ p ∈ l, p.1 ≠ k) : mapGet (l ++ m) k = mapGet m k := by
 induction l with
 | nil => rfl
 | cons p l ih =>
  rw [List.cons_append, mapGet, if_neg (h p List.mem_cons_self)]
  exact ih fun q hq => h q (List.mem_cons_of_mem _ hq)
theorem mapPut_app {κ α : Type} [DecidableEq κ] {l : List (κ × α)} {k : κ} (e : Prop) [Decidable e] (x y : α) (h : ∀ p ∈ l, p.1 ≠ k) : mapPut (l ++ if e then [] else [(k, x)]) k y = l ++ [(k, y)] := by
 by_cases he : e
 ·rw [if_pos he, List.append_nil]
  unfold mapPut
  rw [if_neg]
  rintro ⟨p, hp, h2⟩
  exact h p hp h2
 ·rw [if_neg he]
  unfold mapPut
  rw [if_pos ⟨(k, x), by simp, rfl⟩, List.map_append]
  congr 1
  ·conv => rhs; rw [← List.map_id l]
   refine List.map_congr_left fun q hq => ?_
   rw [if_neg (h q hq)]
   rfl
  ·simp
noncomputable def curOf (l : List know_Entry) (v : know_Entry) (kt kb : Nat) (s : ByteArray) : List (Int × know_Posting) := pairsOf l s ++ (if postE (postAt v kt kb s) then [] else [(v.id_, postAt v kt kb s)])
structure Atd (l : List know_Entry) (v : know_Entry) (kt kb : Nat) (m : List (ByteArray × List (Int × know_Posting))) : Prop where
 get : ∀ s, mapGet m s = if curOf l v kt kb s = [] then none else some (curOf l v kt kb s)
 nod : (m.map (·.1)).Nodup
 len : m.length ≤ 20200 * l.length + kt + kb
theorem Atd.getD {l : List know_Entry} {v : know_Entry} {kt kb : Nat} {m : List (ByteArray × List (Int × know_Posting))} (h : Atd l v kt kb m) (s : ByteArray) : (mapGet m s).getD [] = curOf l v kt kb s := by
 rw [h.get]
 split
 ·rename_i he
  exact he.symm
 ·rfl
theorem cur_get {l : List know_Entry} {v : know_Entry} {kt kb : Nat} {s : ByteArray} (hl : ∀ u ∈ l, u.id_ ≠ v.id_) : (mapGet (curOf l v kt kb s) v.id_).getD ⟨v.id_, [], []⟩ = postAt v kt kb s := by
 unfold curOf
 rw [mapGet_app (fun p hp => by obtain ⟨u, hu, e, _⟩ := pairs_id hp; rw [e]; exact hl u hu)]
 by_cases he : postE (postAt v kt kb s)
 ·rw [if_pos he]
  obtain ⟨h1, h2⟩ := he
  show (⟨v.id_, [], []⟩ : know_Posting) = _
  unfold postAt at h1 h2 ⊢
  dsimp only at h1 h2
  rw [h1, h2]
 ·rw [if_neg he, mapGet, if_pos rfl]
  rfl
theorem cur_put {l : List know_Entry} {v : know_Entry} {kt kb : Nat} {s : ByteArray} (hl : ∀ u ∈ l, u.id_ ≠ v.id_) (y : know_Posting) : mapPut (curOf l v kt kb s) v.id_ y = pairsOf l s ++ [(v.id_, y)] := by
 unfold curOf
 exact mapPut_app _ _ _ (fun p hp => by obtain ⟨u, hu, e, _⟩ := pairs_id hp; rw [e]; exact hl u hu)
theorem mapPut_len {κ α : Type} [DecidableEq κ] (l : List (κ × α)) (k : κ) (v : α) : (mapPut l k v).length ≤ l.length + 1 := by
 unfold mapPut
 split
 ·rw [List.length_map]; omega
 ·rw [List.length_append, List.length_singleton]; omega
theorem mapPut_nodup {κ α : Type} [DecidableEq κ] {l : List (κ × α)} (k : κ) (v : α) (h : (l.map (·.1)).Nodup) : ((mapPut l k v).map (·.1)).Nodup := by
 rw [mapPut_keys]
 split
 ·exact h
 ·rename_i hn
  exact nodup_snoc h fun hm => hn (mapGet_mem.2 hm)
theorem at_round (l : List know_Entry) (v : know_Entry) (hl : ∀ u ∈ l, u.id_ ≠ v.id_) (title : Bool) (hn : (stemsL v.title).length ≤ 1000000 ∧ (stemsL v.body).length ≤ 1000000) (kt kb : Nat) (hkt : kt ≤ (stemsL v.title).length) (hkb : kb ≤ (stemsL v.body).length) (hlt : if title = true then kt < (stemsL v.title).length else kb < (stemsL v.body).length)
  (m : List (ByteArray × List (Int × know_Posting))) (hs : Atd l v kt kb m) : ∃ m', idxAtWord v.id_ title (wordsL (if title = true then v.title else v.body).data.toList) (if title = true then kt else kb) m = some (.nx m') ∧ Atd l v (if title = true then kt + 1 else kt) (if title = true then kb else kb + 1) m' := by
 unfold idxAtWord
 have key : ∀ (tx : ByteArray) (k : Nat), k < (stemsL tx).length → ∃ w, (wordsL tx.data.toList)[k]? = some w ∧ portref2_StemOf w = some (stemF w) ∧ (stemsL tx)[k]? = some (stemF w) := fun tx k hk => by
  unfold stemsL at hk ⊢
  rw [List.length_map] at hk
  refine ⟨(wordsL tx.data.toList)[k], List.getElem?_eq_getElem hk, (stemF_val _ ?_).2, by simp [hk]⟩
  have := words_small tx.data.toList _ (List.getElem_mem hk)
  omega
 obtain ⟨w, h1, h2, h3⟩ := key (if title = true then v.title else v.body) (if title = true then kt else kb) (by cases title <;> simpa using hlt)
 generalize stemF w = t at h2 h3
 rw [idx_nat, h1, Option.bind_some, h2, Option.bind_some]
 unfold idxAtPut
 rw [hs.getD t, cur_get hl]
 have fin : ∀ (kt' kb' : Nat) (p : know_Posting), p = postAt v kt' kb' t → ¬ postE p → (∀ t', t' ≠ t → postAt v kt' kb' t' = postAt v kt kb t') → kt + kb + 1 ≤ kt' + kb' → Atd l v kt' kb' (mapPut m t (mapPut (curOf l v kt kb t) v.id_ p)) := fun kt' kb' p hp hne ho hle => by
  refine ⟨fun t' => ?_, mapPut_nodup _ _ hs.nod, by have := mapPut_len m t (mapPut (curOf l v kt kb t) v.id_ p); have := hs.len; omega⟩
  rw [mapGet_put_, cur_put hl]
  by_cases he : t = t'
  ·subst he
   rw [if_pos rfl]
   have e : curOf l v kt' kb' t = pairsOf l t ++ [(v.id_, p)] := by
    unfold curOf
    rw [← hp, if_neg hne]
   rw [e, if_neg (by simp)]
  ·rw [if_neg he, hs.get]
   have e : curOf l v kt' kb' t' = curOf l v kt kb t' := by
    unfold curOf
    rw [ho t' (Ne.symm he)]
   rw [e]
 cases title with
 | true =>
  simp only [if_true] at h3 hlt ⊢
  have hlp := pos_len (stemsL v.title) t kt
  unfold appendL
  rw [if_pos (by show (pos (stemsL v.title) t kt).length + _ ≤ _; rw [List.length_singleton]; omega), Option.bind_some, Option.bind_some]
  refine ⟨_, rfl, fin (kt + 1) kb _ ?_ ?_ (fun t' hne => ?_) (by omega)⟩
  ·unfold postAt
   dsimp only
   rw [pos_succ, if_pos h3]
  ·rintro ⟨e, _⟩
   simp at e
  ·unfold postAt
   rw [pos_succ, if_neg]
   rw [h3]
   exact fun e => hne (Option.some.inj e).symm
 | false =>
  simp only [Bool.false_eq_true, if_false] at h3 hlt ⊢
  have hlp := pos_len (stemsL v.body) t kb
  unfold appendL
  rw [if_pos (by show (pos (stemsL v.body) t kb).length + _ ≤ _; rw [List.length_singleton]; omega), Option.bind_some, Option.bind_some]
  refine ⟨_, rfl, fin kt (kb + 1) _ ?_ ?_ (fun t' hne => ?_) (by omega)⟩
  ·unfold postAt
   dsimp only
   rw [pos_succ, if_pos h3]
  ·rintro ⟨_, e⟩
   simp at e
  ·unfold postAt
   rw [pos_succ (stemsL v.body), if_neg]
   rw [h3]
   exact fun e => hne (Option.some.inj e).symm
noncomputable def sizeOfE (v : know_Entry) : Int := ((stemsL v.title).length : Int) + ((stemsL v.body).length : Int)
structure Table (l : List know_Entry) (m : List (ByteArray × List (Int × know_Posting))) : Prop where
 get : ∀ s, mapGet m s = if pairsOf l s = [] then none else some (pairsOf l s)
 nod : (m.map (·.1)).Nodup
 len : m.length ≤ 20200 * l.length
theorem post_zero (v : know_Entry) (s : ByteArray) : postE (postAt v 0 0 s) := ⟨pos_zero (stemsL v.title) s, pos_zero (stemsL v.body) s⟩
theorem Table.start {l : List know_Entry} {v : know_Entry} {m : List (ByteArray × List (Int × know_Posting))} (h : Table l m) : Atd l v 0 0 m := by
 have e : ∀ s, curOf l v 0 0 s = pairsOf l s := fun s => by
  unfold curOf
  rw [if_pos (post_zero v s), List.append_nil]
 exact ⟨fun s => by rw [e]; exact h.get s, h.nod, by have := h.len; omega⟩
theorem Atd.done {l : List know_Entry} {v : know_Entry} {m : List (ByteArray × List (Int × know_Posting))} (h : Atd l v (stemsL v.title).length (stemsL v.body).length m) (hs : (stemsL v.title).length + (stemsL v.body).length ≤ 20200) : Table (l ++ [v]) m := by
 have e : ∀ s, curOf l v (stemsL v.title).length (stemsL v.body).length s = pairsOf (l ++ [v]) s := fun s => by
  rw [pairs_snoc]
  rfl
 refine ⟨fun s => by rw [← e]; exact h.get s, h.nod, ?_⟩
 have := h.len
 rw [List.length_append, List.length_singleton]
 omega
theorem at_entry (l : List know_Entry) (hr : l.Pairwise fun a b => a.id_ < b.id_) (hsz : ∀ v ∈ l, v.title.size ≤ 200 ∧ v.body.size ≤ 20000) (hlen : l.length ≤ 200) (k : Nat) (hk : k < l.length) (s : List Int × List Int × List (ByteArray × List (Int × know_Posting)))
  (hs : s.1 = (l.take k).map (·.id_) ∧ s.2.1 = (l.take k).map sizeOfE ∧ Table (l.take k) s.2.2) :
  ∃ s', idxAtEntry l k s = some (.nx s') ∧ s'.1 = (l.take (k + 1)).map (·.id_) ∧ s'.2.1 = (l.take (k + 1)).map sizeOfE ∧ Table (l.take (k + 1)) s'.2.2 := by
 obtain ⟨hs1, hs2, hs3⟩ := hs
 have hx : l[k]? = some l[k] := List.getElem?_eq_getElem hk
 have htk : l.take (k + 1) = l.take k ++ [l[k]] := by rw [List.take_add_one, hx]; rfl
 have hid : ∀ u ∈ l.take k, u.id_ ≠ l[k].id_ := fun u hu => by
  obtain ⟨i, hi, rfl⟩ := List.mem_iff_getElem.1 hu
  rw [List.length_take] at hi
  rw [List.getElem_take]
  have := List.pairwise_iff_getElem.1 hr i k (by omega) hk (by omega)
  omega
 obtain ⟨ht, hb⟩ := hsz l[k] (List.getElem_mem hk)
 have hlk : (l.take k).length = k := by rw [List.length_take]; omega
 rw [htk]
 generalize l[k] = v at hx hid ht hb
 have lt := stemsL_len v.title
 have lb := stemsL_len v.body
 have wl : ∀ s : ByteArray, (wordsL s.data.toList).length = (stemsL s).length := fun s => by unfold stemsL; rw [List.length_map]
 unfold idxAtEntry
 rw [idx_nat, hx, Option.bind_some, portref2_WordsOf_val _ (by omega), Option.bind_some, portref2_WordsOf_val _ (by omega), Option.bind_some, hs1, hs2]
 unfold appendL
 rw [if_pos (by rw [List.length_map, List.length_singleton, hlk]; omega), Option.bind_some, if_pos (by rw [List.length_map, List.length_singleton, hlk]; omega), Option.bind_some, wl, wl, w64_id (by omega) (by omega)]
 obtain ⟨m1, h1, i1⟩ := rangeB_inv (R := Empty) (b := idxAtWord v.id_ true (wordsL v.title.data.toList)) (stemsL v.title).length (fun j m => j ≤ (stemsL v.title).length ∧ Atd (l.take k) v j 0 m) (s := s.2.2)
  ⟨Nat.zero_le _, hs3.start⟩ (fun j m hj hI => by
   obtain ⟨m', e1, e2⟩ := at_round (l.take k) v hid true (by omega) j 0 (by omega) (by omega) (by simpa using hj) m hI.2
   exact ⟨m', by simpa using e1, by omega, by simpa using e2⟩)
 rw [h1]
 simp only [Option.bind_some, Lp.andThen_fin]
 obtain ⟨m2, h2, i2⟩ := rangeB_inv (R := Empty) (b := idxAtWord v.id_ false (wordsL v.body.data.toList)) (stemsL v.body).length (fun j m => j ≤ (stemsL v.body).length ∧ Atd (l.take k) v (stemsL v.title).length j m) (s := m1)
  ⟨Nat.zero_le _, i1.2⟩ (fun j m hj hI => by
   obtain ⟨m', e1, e2⟩ := at_round (l.take k) v hid false (by omega) (stemsL v.title).length j (by omega) (by omega) (by simpa using hj) m hI.2
   exact ⟨m', by simpa using e1, by omega, by simpa using e2⟩)
 rw [h2]
 simp only [Option.bind_some, Lp.andThen_fin]
 exact ⟨_, rfl, by rw [List.map_append]; rfl, by rw [List.map_append]; rfl, i2.2.done (by omega)⟩
theorem byId2_lt (a b : know_Posting) : cmpLt (fun x y => portref2_indexOf_2 x y) a b = decide (a.id_ < b.id_) := by
 have h := (int_ord a.id_ b.id_).1
 show decide (cmp_Compare_int a.id_ b.id_ < 0) = _
 by_cases h2 : a.id_ < b.id_
 ·rw [decide_eq_true h2, decide_eq_true (h.2 h2)]
 ·rw [decide_eq_false h2, decide_eq_false fun e => h2 (h.1 e)]
theorem sortP_val {m : List know_Posting} (hm : m.Pairwise fun a b => a.id_ < b.id_) (hl : m.length ≤ 1000000) : sortFuncL (fun x y => portref2_indexOf_2 x y) m = some m := by
 have ok : SortOk (fun x y => portref2_indexOf_2 x y) m := by
  refine ⟨by omega, fun x _ y _ => ⟨_, rfl⟩, fun x _ => ?_, fun x _ y _ z _ h1 h2 => ?_, fun x _ y _ z _ h1 h2 => ?_, fun x hx y hy h1 h2 => ?_⟩
  ·rw [byId2_lt]; simp
  ·rw [byId2_lt, decide_eq_true_eq] at *; omega
  ·rw [byId2_lt, decide_eq_false_iff_not] at *; omega
  ·rw [byId2_lt, decide_eq_false_iff_not] at h1 h2
   obtain ⟨i, hi, rfl⟩ := List.mem_iff_getElem.1 hx
   obtain ⟨j, hj, rfl⟩ := List.mem_iff_getElem.1 hy
   rcases Nat.lt_trichotomy i j with h | rfl | h
   ·exact absurd (List.pairwise_iff_getElem.1 hm i j hi hj h) h1
   ·rfl
   ·exact absurd (List.pairwise_iff_getElem.1 hm j i hj hi h) h2
 unfold sortFuncL
 rw [if_pos ok]
 refine congrArg some (List.mergeSort_of_pairwise ?_)
 refine hm.imp fun {a b} h => ?_
 rw [byId2_lt, decide_eq_false (by omega)]
 rfl
theorem indexOf_val (l : List know_Entry) (hr : l.Pairwise fun a b => a.id_ < b.id_) (hsz : ∀ v ∈ l, v.title.size ≤ 200 ∧ v.body.size ≤ 20000) (hlen : l.length ≤ 200) :
  ∃ T, portref2_indexOf l = some ⟨l.map (·.id_), l.map sizeOfE, T⟩ ∧ Terms (anyS l) (lstOf l) T := by
 unfold portref2_indexOf
 obtain ⟨s, h1, i1, i2, i3⟩ := rangeB_inv (R := Empty) (b := idxAtEntry l) l.length (fun k s => s.1 = (l.take k).map (·.id_) ∧ s.2.1 = (l.take k).map sizeOfE ∧ Table (l.take k) s.2.2) (s := ([], [], []))
  ⟨rfl, rfl, ⟨fun s => by rw [List.take_zero]; rfl, List.nodup_nil, Nat.zero_le _⟩⟩ (fun k s hk hI => at_entry l hr hsz hlen k hk s hI)
 rw [List.take_length] at i1 i2 i3
 have hml := i3.len
 rw [h1, Option.bind_some, Lp.andThen_fin, if_pos (by omega), i1, i2]
 obtain ⟨q, hq, q1, q2⟩ := sortStrs_val (l := s.2.2.map (·.1)) (by rw [List.length_map]; omega) i3.nod
 rw [hq, Option.bind_some]
 have hmem : ∀ t, t ∈ q ↔ anyS l t := fun t => by
  rw [q2, ← mapGet_mem, i3.get]
  by_cases h : pairsOf l t = []
  ·rw [if_pos h]
   simp [pairs_nil.1 h]
  ·rw [if_neg h]
   have := fun e => h (pairs_nil.2 e)
   simp only [Option.isSome_some, true_iff]
   exact Classical.not_not.1 this
 have hql : q.length = s.2.2.length := by
  unfold sortStrsL at hq
  rw [if_pos (by rw [List.length_map]; omega)] at hq
  have := congrArg List.length (Option.some.inj hq)
  rw [← this]
  unfold strsOf bytesOf
  rw [List.length_map, List.length_mergeSort, List.length_map, List.length_map]
 obtain ⟨L, h3, h4⟩ := rangeB_inv (R := Empty) (b := idxTerm s.2.2 q) q.length (fun k s => s = (q.take k).map fun t => (⟨t, lstOf l t⟩ : know_Term)) (s := []) rfl (fun k u hk hI => by
  subst hI
  have hx : q[k]? = some q[k] := List.getElem?_eq_getElem hk
  have hm := (hmem q[k]).1 (List.getElem_mem hk)
  generalize q[k] = t at hx hm
  have hpl := pairs_len l t
  unfold idxTerm
  rw [idx_nat, hx, Option.bind_some, i3.get, if_neg (fun e => pairs_nil.1 e hm), Option.bind_some, if_pos (by omega), show (pairsOf l t).map (·.2) = lstOf l t from rfl, sortP_val (lst_rise hr t) (by have := lst_len l t; omega), Option.bind_some]
  unfold appendL
  rw [if_pos (by rw [List.length_map, List.length_take, List.length_singleton]; omega), Option.bind_some]
  refine ⟨_, rfl, ?_⟩
  rw [List.take_add_one, hx, List.map_append]
  rfl)
 rw [List.take_length] at h4
 rw [h3, Option.bind_some, Lp.andThen_fin, h4]
 refine ⟨_, rfl, ?_, fun t => ?_⟩
 ·show List.Pairwise _ _
  rw [List.pairwise_map]
  exact q1
 ·rw [List.mem_map]
  constructor
  ·rintro ⟨u, hu, rfl⟩
   exact ⟨(hmem u).1 hu, rfl⟩
  ·rintro ⟨h1, h2⟩
   exact ⟨t.word, (hmem _).2 h1, by rw [← h2]⟩
end Go.Proofs.YtldkdabcdbgpbaaGreatDoor.M
namespace Go.Proofs.YtldkdabcdbgpbaaGreatDoor.M
open Go Go.Pu
set_option linter.unusedSimpArgs false
set_option linter.unusedVariables false
def rising (l : List Int) : Prop := ∀ (i j : Nat) (a b : Int), i < j → l[i]? = some a → l[j]? = some b → a < b
theorem bsearch_val {l : List Int} (hl : l.length ≤ 2000000000000000000) (hs : rising l) (v : Int) : ∃ a : Nat, slices_BinarySearch_Lint_int l v = some ((a : Int), decide (v ∈ l)) ∧ (v ∈ l → l[a]? = some v ∧ slices_Index_Lint_int l v = some (a : Int)) ∧ (v ∉ l → slices_Index_Lint_int l v = some (-1)) := by
 unfold slices_BinarySearch_Lint_int
 obtain ⟨a, ha, e, hlo, hhi⟩ := search_loop (R := Int × Bool) (l := l) hl (fun x => some (decide (x < v))) (fun x => decide (x < v)) (fun _ _ => rfl) (fun p q x y hpq hx hy h => by
  have := hs p q x y hpq hx hy
  simp at h ⊢
  omega) (fun s10 => if (decide (s10.1 < s10.2)) = true then Option.bind (Option.bind (shr .u64 (IntKind.wrap .u64 (w64 (s10.1 + s10.2))) 1) fun x26 => Option.bind (idx l (IntKind.wrap .i64 x26)) fun x27 => Option.bind (if (cmp_Less_int x27 v) = true then some (w64 ((IntKind.wrap .i64 x26) + 1), s10.2) else some (s10.1, IntKind.wrap .i64 x26)) fun s32 => some (s32.1, s32.2)) fun s21 => some (.nx (s21.1, s21.2)) else some (.bk (s10.1, s10.2))) (fun s => by
  split
  ·cases shr .u64 (IntKind.wrap .u64 (w64 (s.1 + s.2))) 1 with
   | none => rfl
   | some u =>
    simp only [Option.bind_some]
    cases idx l (IntKind.wrap .i64 u) with
    | none => rfl
    | some x =>
     simp only [Option.bind_some, cmp_Less_int, cmp_isNaN_int, bne_self_eq_false, Bool.false_and, Bool.false_or]
     split <;> rfl
  ·rfl)
 have hidx : ∀ a : Nat, l[a]? = some v → slices_Index_Lint_int l v = some (a : Int) := fun a hv => by
  unfold slices_Index_Lint_int
  obtain ⟨o, ho, hq⟩ := rangeB_spec (R := Int) (body := fun k6 (_ : Unit) => Option.bind (idx l (k6 : Int)) fun x21 => if (v == x21) = true then some (.rt (k6 : Int)) else some (.nx ())) l.length (fun k _ => k ≤ a) (fun o => o = .rt (a : Int)) (s := ()) (Nat.zero_le _) (by
   intro k _ hk hI
   rw [idx_lt l k hk, Option.bind_some]
   by_cases hx : v = l[k]
   ·rw [if_pos (by simpa using hx)]
    refine ⟨_, rfl, ?_⟩
    rcases Nat.lt_or_eq_of_le hI with h | rfl
    ·have := hs k a l[k] v h (List.getElem?_eq_getElem hk) hv
     omega
    ·rfl
   ·rw [if_neg (by simpa using hx)]
    refine ⟨_, rfl, ?_⟩
    rcases Nat.lt_or_eq_of_le hI with h | rfl
    ·exact h
    ·rw [List.getElem?_eq_getElem hk] at hv; cases hv; exact absurd rfl hx) (fun _ h => by
   have := (List.getElem?_eq_some_iff.1 hv).1
   exact absurd h (by omega))
  rw [ho, hq]
  rfl
 have hno : v ∉ l → slices_Index_Lint_int l v = some (-1) := fun hv => by
  unfold slices_Index_Lint_int
  obtain ⟨t, ho, _⟩ := rangeB_inv (R := Int) (b := fun k6 (_ : Unit) => Option.bind (idx l (k6 : Int)) fun x21 => if (v == x21) = true then some (.rt (k6 : Int)) else some (.nx ())) l.length (fun _ _ => True) (s := ()) trivial (by
   intro k _ hk _
   rw [idx_lt l k hk, Option.bind_some, if_neg (by
    rw [beq_iff_eq]
    intro h
    exact hv (h ▸ List.getElem_mem hk))]
   exact ⟨_, rfl, trivial⟩)
  rw [ho]
  rfl
 have hat : l[a]? = some v ↔ v ∈ l := ⟨fun h => List.mem_of_getElem? h, fun h => by
  obtain ⟨j, hj⟩ := List.mem_iff_getElem?.1 h
  rcases Nat.lt_trichotomy j a with h1 | h1 | h1
  ·have := hlo j v h1 hj; simp at this
  ·rw [← h1]; exact hj
  ·have hal : a < l.length := by have := (List.getElem?_eq_some_iff.1 hj).1; omega
   have h2 := hhi a l[a] (Nat.le_refl _) (List.getElem?_eq_getElem hal)
   have h3 := hs a j l[a] v h1 (List.getElem?_eq_getElem hal) hj
   simp at h2
   omega⟩
 refine ⟨a, ?_, fun hv => ⟨hat.2 hv, hidx a (hat.2 hv)⟩, hno⟩
 rw [e, Option.bind_some, Lp.andThen_fin]
 by_cases hal : (a : Int) < (l.length : Int)
 ·have hx : l[a]? = some l[a] := List.getElem?_eq_getElem (by omega)
  rw [if_pos (by simpa using hal)]
  generalize l[a] = x at hx
  simp only [idx_nat, hx, Option.bind_some, slices_isNaN_int, bne_self_eq_false, Bool.false_and]
  by_cases hxv : x = v
  ·subst hxv
   rw [if_pos (by simp)]
   have : x ∈ l := List.mem_of_getElem? hx
   simp [this]
  ·rw [if_neg (by simpa using hxv)]
   have : v ∉ l := fun h => by rw [hat.2 h] at hx; cases hx; exact hxv rfl
   simp [this]
 ·rw [if_neg (by simpa using hal)]
  have : v ∉ l := fun h => by have := (List.getElem?_eq_some_iff.1 (hat.2 h)).1; omega
  simp [this]
theorem or_er (a b : Int) : cmp_Or_api_Errno [a, b] = some (if a ≠ 0 then a else b) := by
 by_cases ha : a = 0 <;> by_cases hb : b = 0 <;> simp [cmp_Or_api_Errno, rangeB, idx, ha, hb, Lp.andThen]
def PosOk (l : List Int) : Prop := rising l ∧ ∀ v ∈ l, 0 ≤ v ∧ v < 20000
theorem positions_eq (l : List Int) (hl : l.length ≤ 2000000000000000000) (size : Int) (h0 : 0 ≤ size) (h1 : size ≤ 20000) : ∃ c, know_checkPositions l size = some c ∧ portref2_positionsFault l size = some c ∧ (c = 0 → PosOk l) := by
 unfold know_checkPositions portref2_positionsFault
 rcases rangeB_sim (R := Int) (b := fun k6 (_ : Unit) => Option.bind (idx l (k6 : Int)) fun x21 => if (!(know_within x21 0 (w64 (size - 1)))) = true then some (.rt 2) else some (.nx ())) (b' := fun k6 (_ : Unit) => Option.bind (idx l (k6 : Int)) fun x21 => if ((decide (x21 < 0)) || (decide (size ≤ x21))) = true then some (.rt 2) else some (.nx ())) l.length (fun r => r = 2) (fun k _ _ => ∀ (j : Nat) (v : Int), j < k → l[j]? = some v → 0 ≤ v ∧ v < 20000) (s := ()) (s' := ()) (fun j v h => by omega) (by
  rintro k _ _ hk hI
  have hvk : l[k]? = some l[k] := List.getElem?_eq_getElem hk
  rw [idx_lt l k hk, Option.bind_some, Option.bind_some]
  generalize l[k] = v at hvk
  have e : (!(know_within v 0 (w64 (size - 1)))) = ((decide (v < 0)) || (decide (size ≤ v))) := by
   rw [w64_id (by omega) (by omega), Bool.eq_iff_iff]
   simp [know_within]
   omega
  rw [e]
  cases hb : ((decide (v < 0)) || (decide (size ≤ v)))
  ·refine Or.inr ⟨_, _, rfl, rfl, fun j u hj hu => ?_⟩
   rcases Nat.lt_or_eq_of_le (Nat.le_of_lt_succ hj) with h | rfl
   ·exact hI j u h hu
   ·rw [hvk] at hu; cases hu
    simp at hb
    omega
  ·exact Or.inl ⟨_, rfl, rfl, rfl⟩) with ⟨r, a1, a2, rfl⟩ | ⟨_, _, a1, a2, hin⟩
 ·rw [a1, a2]
  exact ⟨2, rfl, rfl, fun h => absurd h (by decide)⟩
 ·rw [a1, a2]
  simp only [Option.bind_some, Lp.andThen_fin]
  obtain ⟨o, ho, hq⟩ := rangeB_spec (R := Int) (body := fun k32 (_ : Unit) => Option.bind (idx l (k32 : Int)) fun x47 => Option.bind (if (decide ((0 : Int) < (k32 : Int))) = true then (Option.bind (idx l (w64 ((k32 : Int) - 1))) fun x53 => some (decide (x47 ≤ x53))) else (some false)) fun s52 => if s52 = true then some (.rt 5) else some (.nx ())) l.length (fun k _ => ∀ (i j : Nat) (a b : Int), i < j → j < k → l[i]? = some a → l[j]? = some b → a < b) (fun o => o = .rt 5 ∨ (o = .fin () ∧ rising l)) (s := ()) (fun i j a b h h' => by omega) (by
   intro k _ hk hI
   have hvk : l[k]? = some l[k] := List.getElem?_eq_getElem hk
   rw [idx_lt l k hk, Option.bind_some]
   generalize l[k] = v at hvk
   have hw : ∃ b, (if (decide ((0 : Int) < (k : Int))) = true then (Option.bind (idx l (w64 ((k : Int) - 1))) fun x53 => some (decide (v ≤ x53))) else (some false)) = some b ∧ (b = false → ∀ a, 0 < k → l[k - 1]? = some a → a < v) := by
    by_cases h0 : 0 < k
    ·have e : w64 ((k : Int) - 1) = ((k - 1 : Nat) : Int) := by rw [w64_id (by omega) (by omega)]; omega
     have hk1 : l[k - 1]? = some (l[k - 1]'(by omega)) := List.getElem?_eq_getElem (by omega)
     rw [if_pos (by simpa using h0), e, idx_nat, hk1, Option.bind_some]
     refine ⟨_, rfl, fun hb a _ ha => ?_⟩
     cases ha
     rw [decide_eq_false_iff_not] at hb
     omega
    ·rw [if_neg (by simpa using h0)]
     exact ⟨_, rfl, fun _ a h => absurd h h0⟩
   obtain ⟨b, hb, hbo⟩ := hw
   rw [hb]
   cases b
   ·refine ⟨_, rfl, fun i j a c hij hj ha hc => ?_⟩
    rcases Nat.lt_or_eq_of_le (Nat.le_of_lt_succ hj) with h | rfl
    ·exact hI i j a c hij h ha hc
    ·rw [hvk] at hc; cases hc
     have hk1 : l[j - 1]? = some (l[j - 1]'(by omega)) := List.getElem?_eq_getElem (by omega)
     have h1 := hbo rfl _ (by omega) hk1
     rcases Nat.lt_or_eq_of_le (Nat.le_sub_one_of_lt hij) with h | rfl
     ·have := hI i (j - 1) a _ h (by omega) ha hk1
      omega
     ·rw [hk1] at ha; cases ha; exact h1
   ·exact ⟨_, rfl, Or.inl rfl⟩) (fun _ hI => Or.inr ⟨rfl, fun i j a b hij ha hb => hI i j a b hij (List.getElem?_eq_some_iff.1 hb).1 ha hb⟩)
  rw [ho]
  simp only [Option.bind_some]
  rcases hq with rfl | ⟨rfl, hr⟩
  ·exact ⟨5, rfl, rfl, fun h => absurd h (by decide)⟩
  ·refine ⟨0, rfl, rfl, fun _ => ⟨hr, fun v hv => ?_⟩⟩
   obtain ⟨j, hj⟩ := List.mem_iff_getElem?.1 hv
   exact hin j v (List.getElem?_eq_some_iff.1 hj).1 hj
structure TermOk (x : know_Index) (t : know_Term) : Prop where
 ne : t.list_ ≠ []
 ids : ∀ p ∈ t.list_, p.id_ ∈ x.ids
 rise : ∀ (i j : Nat) (p q : know_Posting), i < j → t.list_[i]? = some p → t.list_[j]? = some q → p.id_ < q.id_
 pos : ∀ p ∈ t.list_, PosOk p.title ∧ PosOk p.body
structure IdsOk (x : know_Index) : Prop where
 len : x.ids.length ≤ 200
 sizes : x.sizes.length = x.ids.length
 rise : rising x.ids
 range : ∀ v ∈ x.ids, 1 ≤ v ∧ v ≤ 3000000
 size : ∀ v ∈ x.sizes, 0 ≤ v ∧ v ≤ 20000
structure IndexOk (x : know_Index) : Prop extends IdsOk x where
 terms : ∀ t ∈ x.terms, TermOk x t
 words : ∀ (i j : Nat) (t u : know_Term), i < j → x.terms[i]? = some t → x.terms[j]? = some u → cmpS t.word u.word < 0
structure Small (x : know_Index) : Prop where
 terms : x.terms.length ≤ 1048576
 word : ∀ t ∈ x.terms, t.word.size ≤ 1048576
 list : ∀ t ∈ x.terms, t.list_.length ≤ 1048576
 posts : ∀ t ∈ x.terms, ∀ p ∈ t.list_, p.title.length ≤ 1048576 ∧ p.body.length ≤ 1048576
theorem term_eq {x : know_Index} (hx : IdsOk x) (t : know_Term) (hne : t.list_ ≠ []) (hl : t.list_.length ≤ 1048576) (hp : ∀ p ∈ t.list_, p.title.length ≤ 1048576 ∧ p.body.length ≤ 1048576) :
  ∃ c, know_Index_checkTerm x t = some c ∧ (c = 0 → TermOk x t) ∧
   rangeB (R := Int) (fun k191 (_ : Unit) => Option.bind (α := Lp _ _) (Option.bind (idx t.list_ (k191 : Int)) fun x218 => Option.bind (slices_Index_Lint_int x.ids x218.id_) fun x246 => if (decide (x246 < 0)) = true then some (.rt 7) else Option.bind (if (decide ((0 : Int) < (k191 : Int))) = true then (Option.bind (idx t.list_ (w64 ((k191 : Int) - 1))) fun x255 => some (decide (x218.id_ ≤ x255.id_))) else (some false)) fun s249 => if s249 = true then some (.rt 5) else if ((w64 ((x218.title.length : Int) + (x218.body.length : Int))) == 0) = true then some (.rt 1) else Option.bind (rangeB (fun k295 _ => Option.bind (idx ([x218.title, x218.body] : List (List Int)) (k295 : Int)) fun x310 => Option.bind (idx x.sizes x246) fun x321 => Option.bind (portref2_positionsFault x310 x321) fun x325 => if (x325 != 0) = true then some (.rt x325) else some (.nx ())) (([x218.title, x218.body] : List (List Int)).length) 0 ()) fun o292 => o292.andThen (fun y => some (.rt y)) fun s293 => some (.fin ())) fun o210 => o210.andThen (fun y => some (.rt y)) fun s211 => some (.nx ())) t.list_.length 0 () = some (if c = 0 then .fin () else .rt c) := by
 unfold know_Index_checkTerm
 rcases rangeB_sim (R := Int) (b := fun k29 s35 => Option.bind (idx t.list_ (k29 : Int)) fun x48 => Option.bind (slices_BinarySearch_Lint_int x.ids x48.id_) fun x76 => if (!x76.2) = true then some (.rt 7) else if (decide (x48.id_ ≤ s35)) = true then some (.rt 5) else if ((w64 ((x48.title.length : Int) + (x48.body.length : Int))) == 0) = true then some (.rt 1) else Option.bind (idx x.sizes x76.1) fun x98 => Option.bind (know_checkPositions x48.title x98) fun x102 => Option.bind (know_checkPositions x48.body x98) fun x114 => Option.bind (cmp_Or_api_Errno ([x102, x114] : List Int)) fun x123 => if (x123 != 0) = true then some (.rt x123) else some (.nx x48.id_))
  (b' := fun k191 (_ : Unit) => Option.bind (α := Lp _ _) (Option.bind (idx t.list_ (k191 : Int)) fun x218 => Option.bind (slices_Index_Lint_int x.ids x218.id_) fun x246 => if (decide (x246 < 0)) = true then some (.rt 7) else Option.bind (if (decide ((0 : Int) < (k191 : Int))) = true then (Option.bind (idx t.list_ (w64 ((k191 : Int) - 1))) fun x255 => some (decide (x218.id_ ≤ x255.id_))) else (some false)) fun s249 => if s249 = true then some (.rt 5) else if ((w64 ((x218.title.length : Int) + (x218.body.length : Int))) == 0) = true then some (.rt 1) else Option.bind (rangeB (fun k295 _ => Option.bind (idx ([x218.title, x218.body] : List (List Int)) (k295 : Int)) fun x310 => Option.bind (idx x.sizes x246) fun x321 => Option.bind (portref2_positionsFault x310 x321) fun x325 => if (x325 != 0) = true then some (.rt x325) else some (.nx ())) (([x218.title, x218.body] : List (List Int)).length) 0 ()) fun o292 => o292.andThen (fun y => some (.rt y)) fun s293 => some (.fin ())) fun o210 => o210.andThen (fun y => some (.rt y)) fun s211 => some (.nx ()))
  t.list_.length (fun r => r ≠ 0) (fun k s _ => (k = 0 → s = 0) ∧ (∀ p, 0 < k → t.list_[k - 1]? = some p → s = p.id_) ∧ (∀ j p, j < k → t.list_[j]? = some p → p.id_ ∈ x.ids) ∧ ∀ (i j : Nat) (p q : know_Posting), (i < j → j < k → t.list_[i]? = some p → t.list_[j]? = some q → p.id_ < q.id_) ∧ (j < k → t.list_[j]? = some q → PosOk q.title ∧ PosOk q.body)) (s := 0) (s' := ()) ⟨fun _ => rfl, fun p h => by omega, fun j p h => by omega, fun i j p q => ⟨fun h h' => by omega, fun h => by omega⟩⟩ (by
  rintro k s _ hk ⟨i1, i2, i3, i5⟩
  have i4 := fun i j p q => (i5 i j p q).1
  have i6 := fun j q => (i5 0 j q q).2
  have hpk : t.list_[k]? = some t.list_[k] := List.getElem?_eq_getElem hk
  have hpm := List.getElem_mem hk
  have hpl := hp _ hpm
  rw [idx_lt _ _ hk, Option.bind_some, Option.bind_some]
  generalize t.list_[k] = p at hpk hpm hpl
  obtain ⟨a, b1, b2, b3⟩ := bsearch_val (l := x.ids) (by have := hx.len; omega) hx.rise p.id_
  rw [b1, Option.bind_some]
  by_cases hin : p.id_ ∈ x.ids
  rotate_left
  ·rw [b3 hin]
   simp [hin, Lp.andThen]
  obtain ⟨c1, c2⟩ := b2 hin
  rw [c2, Option.bind_some]
  have hpr := hx.range _ hin
  have hal : a < x.ids.length := (List.getElem?_eq_some_iff.1 c1).1
  simp only [hin, decide_true, Bool.not_true, Bool.false_eq_true, if_false, show ¬ ((a : Int) < 0) by omega, decide_false]
  have hord : (if (decide ((0 : Int) < (k : Int))) = true then (Option.bind (idx t.list_ (w64 ((k : Int) - 1))) fun x255 => some (decide (p.id_ ≤ x255.id_))) else (some false)) = some (decide (p.id_ ≤ s)) := by
   by_cases h0 : 0 < k
   ·have e : w64 ((k : Int) - 1) = ((k - 1 : Nat) : Int) := by rw [w64_id (by omega) (by omega)]; omega
    have hk1 : t.list_[k - 1]? = some (t.list_[k - 1]'(by omega)) := List.getElem?_eq_getElem (by omega)
    rw [if_pos (by simpa using h0), e, idx_nat, hk1, Option.bind_some, i2 _ h0 hk1]
   ·rw [if_neg (by simpa using h0), i1 (by omega)]
    congr 1
    rw [eq_comm, decide_eq_false_iff_not]
    omega
  rw [hord, Option.bind_some]
  by_cases hle : p.id_ ≤ s
  ·simp [hle, Lp.andThen]
  simp only [hle, decide_false, Bool.false_eq_true, if_false]
  by_cases hem : (w64 ((p.title.length : Int) + (p.body.length : Int)) == 0) = true
  ·simp [hem, Lp.andThen]
  rw [if_neg hem, if_neg hem]
  have hsl : a < x.sizes.length := by have := hx.sizes; omega
  rw [idx_lt _ _ hsl, Option.bind_some]
  have hsz := hx.size _ (List.getElem_mem hsl)
  generalize x.sizes[a] = z at hsz
  obtain ⟨u, u1, u2, u3⟩ := positions_eq p.title (by omega) z hsz.1 hsz.2
  obtain ⟨v, v1, v2, v3⟩ := positions_eq p.body (by omega) z hsz.1 hsz.2
  have hin2 : rangeB (R := Int) (fun k295 (_ : Unit) => Option.bind (idx ([p.title, p.body] : List (List Int)) (k295 : Int)) fun x310 => Option.bind (some z) fun x321 => Option.bind (portref2_positionsFault x310 x321) fun x325 => if (x325 != 0) = true then some (.rt x325) else some (.nx ())) (([p.title, p.body] : List (List Int)).length) 0 () = some (if (if u ≠ 0 then u else v) = 0 then .fin () else .rt (if u ≠ 0 then u else v)) := by
   by_cases hu : u = 0 <;> by_cases hv : v = 0 <;> simp [rangeB, idx, u2, v2, hu, hv]
  rw [u1, v1, Option.bind_some, Option.bind_some, or_er, Option.bind_some, hin2, Option.bind_some]
  by_cases hz : (if u ≠ 0 then u else v) = 0
  ·have hu0 : u = 0 := by split at hz <;> omega
   have hv0 : v = 0 := by rw [if_neg (by omega)] at hz; exact hz
   rw [hz]
   refine Or.inr ⟨p.id_, (), by simp, by simp [Lp.andThen], fun h => by omega, fun q _ hq => by rw [show k + 1 - 1 = k by omega, hpk] at hq; cases hq; rfl, fun j q hj hq => ?_, fun i j p' q => ⟨fun hij hj hp' hq => ?_, fun hj hq => ?_⟩⟩
   ·rcases Nat.lt_or_eq_of_le (Nat.le_of_lt_succ hj) with h | rfl
    ·exact i3 j q h hq
    ·rw [hpk] at hq; cases hq; exact hin
   ·rcases Nat.lt_or_eq_of_le (Nat.le_of_lt_succ hj) with h | rfl
    ·exact i4 i j p' q hij h hp' hq
    ·rw [hpk] at hq; cases hq
     have hj0 : 0 < j := by omega
     have hk1 : t.list_[j - 1]? = some (t.list_[j - 1]'(by omega)) := List.getElem?_eq_getElem (by omega)
     have hs := i2 _ hj0 hk1
     rcases Nat.lt_or_eq_of_le (Nat.le_sub_one_of_lt hij) with h | rfl
     ·have := i4 i (j - 1) p' _ h (by omega) hp' hk1
      omega
     ·rw [hk1] at hp'; cases hp'; omega
   ·rcases Nat.lt_or_eq_of_le (Nat.le_of_lt_succ hj) with h | rfl
    ·exact i6 j q h hq
    ·rw [hpk] at hq; cases hq; exact ⟨u3 hu0, v3 hv0⟩
  ·refine Or.inl ⟨_, ?_, ?_, hz⟩
   ·rw [if_pos (by simpa using hz)]
   ·rw [if_neg hz]
    rfl) with ⟨r, a1, a2, h⟩ | ⟨s, _, a1, a2, i1, i2, i3, i5⟩
 ·rw [a1, a2]
  exact ⟨r, rfl, fun h0 => absurd h0 h, by rw [if_neg h]⟩
 ·rw [a1, a2]
  refine ⟨0, rfl, fun _ => ⟨hne, fun p hp' => ?_, fun i j p q hij hp' hq => (i5 i j p q).1 hij (List.getElem?_eq_some_iff.1 hq).1 hp' hq, fun p hp' => ?_⟩, rfl⟩
  ·obtain ⟨j, hj⟩ := List.mem_iff_getElem?.1 hp'
   exact i3 j p (List.getElem?_eq_some_iff.1 hj).1 hj
  ·obtain ⟨j, hj⟩ := List.mem_iff_getElem?.1 hp'
   exact (i5 0 j p p).2 (List.getElem?_eq_some_iff.1 hj).1 hj
end Go.Proofs.YtldkdabcdbgpbaaGreatDoor.M
namespace Go.Proofs.YtldkdabcdbgpbaaGreatDoor.M
open Go Go.Pu
set_option linter.unusedSimpArgs false
set_option linter.unusedVariables false
theorem ids_eq (x : know_Index) (hlen : x.ids.length ≤ 200) (hsz : x.sizes.length = x.ids.length) :
  (∃ r, rangeB (R := Int) (fun k35 (_ : Unit) => Option.bind (idx x.ids (k35 : Int)) fun x50 => if (!(know_within x50 1 3000000)) = true then some (.rt 2) else Option.bind (if (decide ((0 : Int) < (k35 : Int))) = true then (Option.bind (idx x.ids (w64 ((k35 : Int) - 1))) fun x61 => some (decide (x50 ≤ x61))) else (some false)) fun s56 => if s56 = true then some (.rt 5) else Option.bind (idx x.sizes (k35 : Int)) fun x70 => if (!(know_within x70 0 20000)) = true then some (.rt 2) else some (.nx ())) x.ids.length 0 () = some (.rt r) ∧ rangeB (R := Int) (fun k35 (_ : Unit) => Option.bind (idx x.ids (k35 : Int)) fun x50 => if ((decide (x50 < 1)) || (decide ((3000000 : Int) < x50))) = true then some (.rt 2) else Option.bind (if (decide ((0 : Int) < (k35 : Int))) = true then (Option.bind (idx x.ids (w64 ((k35 : Int) - 1))) fun x63 => some (decide (x50 ≤ x63))) else (some false)) fun s58 => if s58 = true then some (.rt 5) else Option.bind (idx x.sizes (k35 : Int)) fun x72 => Option.bind (if (decide (x72 < 0)) = true then (some true) else (some (decide ((20000 : Int) < x72)))) fun s77 => if s77 = true then some (.rt 2) else some (.nx ())) x.ids.length 0 () = some (.rt r) ∧ r ≠ 0) ∨
  (rangeB (R := Int) (fun k35 (_ : Unit) => Option.bind (idx x.ids (k35 : Int)) fun x50 => if (!(know_within x50 1 3000000)) = true then some (.rt 2) else Option.bind (if (decide ((0 : Int) < (k35 : Int))) = true then (Option.bind (idx x.ids (w64 ((k35 : Int) - 1))) fun x61 => some (decide (x50 ≤ x61))) else (some false)) fun s56 => if s56 = true then some (.rt 5) else Option.bind (idx x.sizes (k35 : Int)) fun x70 => if (!(know_within x70 0 20000)) = true then some (.rt 2) else some (.nx ())) x.ids.length 0 () = some (.fin ()) ∧ rangeB (R := Int) (fun k35 (_ : Unit) => Option.bind (idx x.ids (k35 : Int)) fun x50 => if ((decide (x50 < 1)) || (decide ((3000000 : Int) < x50))) = true then some (.rt 2) else Option.bind (if (decide ((0 : Int) < (k35 : Int))) = true then (Option.bind (idx x.ids (w64 ((k35 : Int) - 1))) fun x63 => some (decide (x50 ≤ x63))) else (some false)) fun s58 => if s58 = true then some (.rt 5) else Option.bind (idx x.sizes (k35 : Int)) fun x72 => Option.bind (if (decide (x72 < 0)) = true then (some true) else (some (decide ((20000 : Int) < x72)))) fun s77 => if s77 = true then some (.rt 2) else some (.nx ())) x.ids.length 0 () = some (.fin ()) ∧ IdsOk x) := by
 rcases rangeB_sim (R := Int) (b := fun k35 (_ : Unit) => Option.bind (idx x.ids (k35 : Int)) fun x50 => if (!(know_within x50 1 3000000)) = true then some (.rt 2) else Option.bind (if (decide ((0 : Int) < (k35 : Int))) = true then (Option.bind (idx x.ids (w64 ((k35 : Int) - 1))) fun x61 => some (decide (x50 ≤ x61))) else (some false)) fun s56 => if s56 = true then some (.rt 5) else Option.bind (idx x.sizes (k35 : Int)) fun x70 => if (!(know_within x70 0 20000)) = true then some (.rt 2) else some (.nx ())) (b' := fun k35 (_ : Unit) => Option.bind (idx x.ids (k35 : Int)) fun x50 => if ((decide (x50 < 1)) || (decide ((3000000 : Int) < x50))) = true then some (.rt 2) else Option.bind (if (decide ((0 : Int) < (k35 : Int))) = true then (Option.bind (idx x.ids (w64 ((k35 : Int) - 1))) fun x63 => some (decide (x50 ≤ x63))) else (some false)) fun s58 => if s58 = true then some (.rt 5) else Option.bind (idx x.sizes (k35 : Int)) fun x72 => Option.bind (if (decide (x72 < 0)) = true then (some true) else (some (decide ((20000 : Int) < x72)))) fun s77 => if s77 = true then some (.rt 2) else some (.nx ())) x.ids.length (fun r => r ≠ 0) (fun k _ _ => (∀ (j : Nat) (a : Int), j < k → x.ids[j]? = some a → 1 ≤ a ∧ a ≤ 3000000) ∧ (∀ (j : Nat) (a : Int), j < k → x.sizes[j]? = some a → 0 ≤ a ∧ a ≤ 20000) ∧ ∀ (i j : Nat) (a b : Int), i < j → j < k → x.ids[i]? = some a → x.ids[j]? = some b → a < b) (s := ()) (s' := ()) ⟨fun j a h => by omega, fun j a h => by omega, fun i j a b h h' => by omega⟩ (by
  rintro k _ _ hk ⟨i1, i2, i3⟩
  simp only [idx_lt _ _ hk, idx_lt x.sizes k (by omega), Option.bind_some]
  have hvk : x.ids[k]? = some x.ids[k] := List.getElem?_eq_getElem hk
  have hzk : x.sizes[k]? = some (x.sizes[k]'(by omega)) := List.getElem?_eq_getElem (by omega)
  generalize x.ids[k] = v at hvk
  generalize x.sizes[k]'(by omega) = z at hzk
  have e1 : (!(know_within v 1 3000000)) = ((decide (v < 1)) || (decide ((3000000 : Int) < v))) := by
   rw [Bool.eq_iff_iff]; simp [know_within] <;> omega
  rw [e1]
  by_cases hv : ((decide (v < 1)) || (decide ((3000000 : Int) < v))) = true
  ·rw [if_pos hv, if_pos hv]
   exact Or.inl ⟨_, rfl, rfl, by decide⟩
  rw [if_neg hv, if_neg hv]
  have hord : ∃ b, (if (decide ((0 : Int) < (k : Int))) = true then (Option.bind (idx x.ids (w64 ((k : Int) - 1))) fun x61 => some (decide (v ≤ x61))) else (some false)) = some b ∧ (b = false → ∀ a, 0 < k → x.ids[k - 1]? = some a → a < v) := by
   by_cases h0 : 0 < k
   ·have e : w64 ((k : Int) - 1) = ((k - 1 : Nat) : Int) := by rw [w64_id (by omega) (by omega)]; omega
    have hk1 : x.ids[k - 1]? = some (x.ids[k - 1]'(by omega)) := List.getElem?_eq_getElem (by omega)
    rw [if_pos (by simpa using h0), e, idx_nat, hk1, Option.bind_some]
    refine ⟨_, rfl, fun hb a _ ha => ?_⟩
    cases ha
    rw [decide_eq_false_iff_not] at hb
    omega
   ·rw [if_neg (by simpa using h0)]
    exact ⟨_, rfl, fun _ a h => absurd h h0⟩
  obtain ⟨b, hb, hbo⟩ := hord
  rw [hb, Option.bind_some, Option.bind_some]
  cases b with
  | true => exact Or.inl ⟨_, rfl, rfl, by decide⟩
  | false =>
   simp only [Bool.false_eq_true, if_false, Option.bind_some]
   have e2 : (if (decide (z < 0)) = true then (some true) else (some (decide ((20000 : Int) < z)))) = some (!(know_within z 0 20000)) := by
    by_cases h0 : z < 0
    ·rw [if_pos (by simpa using h0)]
     have : know_within z 0 20000 = false := by simp [know_within]; omega
     rw [this]; rfl
    ·rw [if_neg (by simpa using h0)]
     congr 1
     rw [Bool.eq_iff_iff]; simp [know_within]; omega
   rw [e2, Option.bind_some]
   cases hz : (!(know_within z 0 20000)) with
   | true => exact Or.inl ⟨_, rfl, rfl, by decide⟩
   | false =>
   refine Or.inr ⟨_, _, rfl, rfl, fun j a hj ha => ?_, fun j a hj ha => ?_, fun i j a c hij hj ha hc => ?_⟩
   ·rcases Nat.lt_or_eq_of_le (Nat.le_of_lt_succ hj) with h | rfl
    ·exact i1 j a h ha
    ·rw [hvk] at ha; cases ha
     simp at hv
     omega
   ·rcases Nat.lt_or_eq_of_le (Nat.le_of_lt_succ hj) with h | rfl
    ·exact i2 j a h ha
    ·rw [hzk] at ha; cases ha
     simp [know_within] at hz
     omega
   ·rcases Nat.lt_or_eq_of_le (Nat.le_of_lt_succ hj) with h | rfl
    ·exact i3 i j a c hij h ha hc
    ·rw [hvk] at hc; cases hc
     have hk1 : x.ids[j - 1]? = some (x.ids[j - 1]'(by omega)) := List.getElem?_eq_getElem (by omega)
     have h1 := hbo rfl _ (by omega) hk1
     rcases Nat.lt_or_eq_of_le (Nat.le_sub_one_of_lt hij) with h | rfl
     ·have := i3 i (j - 1) a _ h (by omega) ha hk1
      omega
     ·rw [hk1] at ha; cases ha; exact h1) with ⟨r, a1, a2, h⟩ | ⟨_, _, a1, a2, i1, i2, i3⟩
 ·exact Or.inl ⟨r, a1, a2, h⟩
 ·refine Or.inr ⟨a1, a2, hlen, hsz, fun i j a b hij ha hb => i3 i j a b hij (List.getElem?_eq_some_iff.1 hb).1 ha hb, fun v hv => ?_, fun v hv => ?_⟩
  ·obtain ⟨j, hj⟩ := List.mem_iff_getElem?.1 hv
   exact i1 j v (List.getElem?_eq_some_iff.1 hj).1 hj
  ·obtain ⟨j, hj⟩ := List.mem_iff_getElem?.1 hv
   exact i2 j v (by have := (List.getElem?_eq_some_iff.1 hj).1; omega) hj
theorem terms_eq {x : know_Index} (hx : IdsOk x) (hs : Small x) :
  (∃ r, rangeB (R := Int) (fun k85 (_ : Unit) => Option.bind (idx x.terms (k85 : Int)) fun x104 => Option.bind (know_Words x104.word) fun x123 => Option.bind (if ((x123.length : Int) != 1) = true then (some true) else (Option.bind (idx x123 0) fun x133 => some (!(strEq x133 x104.word)))) fun s132 => if (s132 || ((x104.list_.length : Int) == 0)) = true then some (.rt 1) else Option.bind (if (decide ((0 : Int) < (k85 : Int))) = true then (Option.bind (idx x.terms (w64 ((k85 : Int) - 1))) fun x156 => some (strLt x104.word x156.word || strEq x104.word x156.word)) else (some false)) fun s150 => if s150 = true then some (.rt 5) else Option.bind (know_Index_checkTerm x x104) fun x175 => if (x175 != 0) = true then some (.rt x175) else some (.nx ())) x.terms.length 0 () = some (.rt r) ∧ rangeB (R := Int) (fun k96 (_ : Unit) => Option.bind (α := Lp _ _) (Option.bind (idx x.terms (k96 : Int)) fun x123 => Option.bind (portref2_WordsOf x123.word) fun x142 => Option.bind (if ((x142.length : Int) != 1) = true then (some true) else (Option.bind (idx x142 0) fun x152 => some (!(strEq x152 x123.word)))) fun s151 => if (s151 || ((x123.list_.length : Int) == 0)) = true then some (.rt 1) else Option.bind (if (decide ((0 : Int) < (k96 : Int))) = true then (Option.bind (idx x.terms (w64 ((k96 : Int) - 1))) fun x175 => some (strLt x123.word x175.word || strEq x123.word x175.word)) else (some false)) fun s169 => if s169 = true then some (.rt 5) else Option.bind (rangeB (fun k191 _ => Option.bind (α := Lp _ _) (Option.bind (idx x123.list_ (k191 : Int)) fun x218 => Option.bind (slices_Index_Lint_int x.ids x218.id_) fun x246 => if (decide (x246 < 0)) = true then some (.rt 7) else Option.bind (if (decide ((0 : Int) < (k191 : Int))) = true then (Option.bind (idx x123.list_ (w64 ((k191 : Int) - 1))) fun x255 => some (decide (x218.id_ ≤ x255.id_))) else (some false)) fun s249 => if s249 = true then some (.rt 5) else if ((w64 ((x218.title.length : Int) + (x218.body.length : Int))) == 0) = true then some (.rt 1) else Option.bind (rangeB (fun k295 _ => Option.bind (idx ([x218.title, x218.body] : List (List Int)) (k295 : Int)) fun x310 => Option.bind (idx x.sizes x246) fun x321 => Option.bind (portref2_positionsFault x310 x321) fun x325 => if (x325 != 0) = true then some (.rt x325) else some (.nx ())) (([x218.title, x218.body] : List (List Int)).length) 0 ()) fun o292 => o292.andThen (fun y => some (.rt y)) fun s293 => some (.fin ())) fun o210 => o210.andThen (fun y => some (.rt y)) fun s211 => some (.nx ())) x123.list_.length 0 ()) fun o188 => o188.andThen (fun y => some (.rt y)) fun s189 => some (.fin ())) fun o115 => o115.andThen (fun y => some (.rt y)) fun s116 => some (.nx ())) x.terms.length 0 () = some (.rt r) ∧ r ≠ 0) ∨
  (rangeB (R := Int) (fun k85 (_ : Unit) => Option.bind (idx x.terms (k85 : Int)) fun x104 => Option.bind (know_Words x104.word) fun x123 => Option.bind (if ((x123.length : Int) != 1) = true then (some true) else (Option.bind (idx x123 0) fun x133 => some (!(strEq x133 x104.word)))) fun s132 => if (s132 || ((x104.list_.length : Int) == 0)) = true then some (.rt 1) else Option.bind (if (decide ((0 : Int) < (k85 : Int))) = true then (Option.bind (idx x.terms (w64 ((k85 : Int) - 1))) fun x156 => some (strLt x104.word x156.word || strEq x104.word x156.word)) else (some false)) fun s150 => if s150 = true then some (.rt 5) else Option.bind (know_Index_checkTerm x x104) fun x175 => if (x175 != 0) = true then some (.rt x175) else some (.nx ())) x.terms.length 0 () = some (.fin ()) ∧ rangeB (R := Int) (fun k96 (_ : Unit) => Option.bind (α := Lp _ _) (Option.bind (idx x.terms (k96 : Int)) fun x123 => Option.bind (portref2_WordsOf x123.word) fun x142 => Option.bind (if ((x142.length : Int) != 1) = true then (some true) else (Option.bind (idx x142 0) fun x152 => some (!(strEq x152 x123.word)))) fun s151 => if (s151 || ((x123.list_.length : Int) == 0)) = true then some (.rt 1) else Option.bind (if (decide ((0 : Int) < (k96 : Int))) = true then (Option.bind (idx x.terms (w64 ((k96 : Int) - 1))) fun x175 => some (strLt x123.word x175.word || strEq x123.word x175.word)) else (some false)) fun s169 => if s169 = true then some (.rt 5) else Option.bind (rangeB (fun k191 _ => Option.bind (α := Lp _ _) (Option.bind (idx x123.list_ (k191 : Int)) fun x218 => Option.bind (slices_Index_Lint_int x.ids x218.id_) fun x246 => if (decide (x246 < 0)) = true then some (.rt 7) else Option.bind (if (decide ((0 : Int) < (k191 : Int))) = true then (Option.bind (idx x123.list_ (w64 ((k191 : Int) - 1))) fun x255 => some (decide (x218.id_ ≤ x255.id_))) else (some false)) fun s249 => if s249 = true then some (.rt 5) else if ((w64 ((x218.title.length : Int) + (x218.body.length : Int))) == 0) = true then some (.rt 1) else Option.bind (rangeB (fun k295 _ => Option.bind (idx ([x218.title, x218.body] : List (List Int)) (k295 : Int)) fun x310 => Option.bind (idx x.sizes x246) fun x321 => Option.bind (portref2_positionsFault x310 x321) fun x325 => if (x325 != 0) = true then some (.rt x325) else some (.nx ())) (([x218.title, x218.body] : List (List Int)).length) 0 ()) fun o292 => o292.andThen (fun y => some (.rt y)) fun s293 => some (.fin ())) fun o210 => o210.andThen (fun y => some (.rt y)) fun s211 => some (.nx ())) x123.list_.length 0 ()) fun o188 => o188.andThen (fun y => some (.rt y)) fun s189 => some (.fin ())) fun o115 => o115.andThen (fun y => some (.rt y)) fun s116 => some (.nx ())) x.terms.length 0 () = some (.fin ()) ∧ IndexOk x) := by
 rcases rangeB_sim (R := Int) (b := fun k85 (_ : Unit) => Option.bind (idx x.terms (k85 : Int)) fun x104 => Option.bind (know_Words x104.word) fun x123 => Option.bind (if ((x123.length : Int) != 1) = true then (some true) else (Option.bind (idx x123 0) fun x133 => some (!(strEq x133 x104.word)))) fun s132 => if (s132 || ((x104.list_.length : Int) == 0)) = true then some (.rt 1) else Option.bind (if (decide ((0 : Int) < (k85 : Int))) = true then (Option.bind (idx x.terms (w64 ((k85 : Int) - 1))) fun x156 => some (strLt x104.word x156.word || strEq x104.word x156.word)) else (some false)) fun s150 => if s150 = true then some (.rt 5) else Option.bind (know_Index_checkTerm x x104) fun x175 => if (x175 != 0) = true then some (.rt x175) else some (.nx ())) (b' := fun k96 (_ : Unit) => Option.bind (α := Lp _ _) (Option.bind (idx x.terms (k96 : Int)) fun x123 => Option.bind (portref2_WordsOf x123.word) fun x142 => Option.bind (if ((x142.length : Int) != 1) = true then (some true) else (Option.bind (idx x142 0) fun x152 => some (!(strEq x152 x123.word)))) fun s151 => if (s151 || ((x123.list_.length : Int) == 0)) = true then some (.rt 1) else Option.bind (if (decide ((0 : Int) < (k96 : Int))) = true then (Option.bind (idx x.terms (w64 ((k96 : Int) - 1))) fun x175 => some (strLt x123.word x175.word || strEq x123.word x175.word)) else (some false)) fun s169 => if s169 = true then some (.rt 5) else Option.bind (rangeB (fun k191 _ => Option.bind (α := Lp _ _) (Option.bind (idx x123.list_ (k191 : Int)) fun x218 => Option.bind (slices_Index_Lint_int x.ids x218.id_) fun x246 => if (decide (x246 < 0)) = true then some (.rt 7) else Option.bind (if (decide ((0 : Int) < (k191 : Int))) = true then (Option.bind (idx x123.list_ (w64 ((k191 : Int) - 1))) fun x255 => some (decide (x218.id_ ≤ x255.id_))) else (some false)) fun s249 => if s249 = true then some (.rt 5) else if ((w64 ((x218.title.length : Int) + (x218.body.length : Int))) == 0) = true then some (.rt 1) else Option.bind (rangeB (fun k295 _ => Option.bind (idx ([x218.title, x218.body] : List (List Int)) (k295 : Int)) fun x310 => Option.bind (idx x.sizes x246) fun x321 => Option.bind (portref2_positionsFault x310 x321) fun x325 => if (x325 != 0) = true then some (.rt x325) else some (.nx ())) (([x218.title, x218.body] : List (List Int)).length) 0 ()) fun o292 => o292.andThen (fun y => some (.rt y)) fun s293 => some (.fin ())) fun o210 => o210.andThen (fun y => some (.rt y)) fun s211 => some (.nx ())) x123.list_.length 0 ()) fun o188 => o188.andThen (fun y => some (.rt y)) fun s189 => some (.fin ())) fun o115 => o115.andThen (fun y => some (.rt y)) fun s116 => some (.nx ())) x.terms.length (fun r => r ≠ 0) (fun k _ _ => (∀ (j : Nat) (t : know_Term), j < k → x.terms[j]? = some t → TermOk x t) ∧ ∀ (i j : Nat) (t u : know_Term), i < j → j < k → x.terms[i]? = some t → x.terms[j]? = some u → cmpS t.word u.word < 0) (s := ()) (s' := ()) ⟨fun j a h => by omega, fun i j a b h h' => by omega⟩ (by
  rintro k _ _ hk ⟨i1, i3⟩
  have hm := hs.terms
  rw [idx_lt _ _ hk, Option.bind_some, Option.bind_some]
  have htk : x.terms[k]? = some x.terms[k] := List.getElem?_eq_getElem hk
  have htm := List.getElem_mem hk
  generalize x.terms[k] = t at htk htm
  have hw := hs.word t htm
  rw [know_Words_val _ (by omega), portref2_WordsOf_val _ (by omega), Option.bind_some, Option.bind_some]
  obtain ⟨b, hb⟩ : ∃ b, (if (((wordsL t.word.data.toList).length : Int) != 1) = true then (some true) else (Option.bind (idx (wordsL t.word.data.toList) 0) fun x133 => some (!(strEq x133 t.word)))) = some b := by
   by_cases h1 : (wordsL t.word.data.toList).length = 1
   ·rw [if_neg (by simp [h1])]
    have := idx_lt (wordsL t.word.data.toList) 0 (by omega)
    rw [show ((0 : Nat) : Int) = 0 from rfl] at this
    rw [this]
    exact ⟨_, rfl⟩
   ·rw [if_pos (by rw [bne_iff_ne]; omega)]
    exact ⟨_, rfl⟩
  rw [hb, Option.bind_some, Option.bind_some]
  by_cases hc : (b || ((t.list_.length : Int) == 0)) = true
  ·rw [if_pos hc, if_pos hc]
   exact Or.inl ⟨_, rfl, rfl, by decide⟩
  rw [if_neg hc, if_neg hc]
  have hne : t.list_ ≠ [] := fun h => by rw [h] at hc; simp at hc
  have hord : ∃ b, (if (decide ((0 : Int) < (k : Int))) = true then (Option.bind (idx x.terms (w64 ((k : Int) - 1))) fun x156 => some (strLt t.word x156.word || strEq t.word x156.word)) else (some false)) = some b ∧ (b = false → ∀ a, 0 < k → x.terms[k - 1]? = some a → cmpS a.word t.word < 0) := by
   by_cases h0 : 0 < k
   ·have e : w64 ((k : Int) - 1) = ((k - 1 : Nat) : Int) := by rw [w64_id (by omega) (by omega)]; omega
    have hk1 : x.terms[k - 1]? = some (x.terms[k - 1]'(by omega)) := List.getElem?_eq_getElem (by omega)
    rw [if_pos (by simpa using h0), e, idx_nat, hk1, Option.bind_some]
    refine ⟨_, rfl, fun hb a _ ha => ?_⟩
    cases ha
    rw [strLt_cmp, strEq_cmp, Bool.or_eq_false_iff, decide_eq_false_iff_not, decide_eq_false_iff_not, ← cmpS_zero] at hb
    rw [cmpS_swap]
    omega
   ·rw [if_neg (by simpa using h0)]
    exact ⟨_, rfl, fun _ a h => absurd h h0⟩
  obtain ⟨b2, hb2, hbo⟩ := hord
  rw [hb2, Option.bind_some, Option.bind_some]
  cases b2 with
  | true => exact Or.inl ⟨_, rfl, rfl, by decide⟩
  | false =>
   simp only [Bool.false_eq_true, if_false]
   obtain ⟨c, c1, c2, c3⟩ := term_eq hx t hne (hs.list t htm) (hs.posts t htm)
   rw [c1, c3, Option.bind_some, Option.bind_some]
   by_cases hc0 : c = 0
   ·subst hc0
    refine Or.inr ⟨_, _, rfl, rfl, fun j a hj ha => ?_, fun i j a d hij hj ha hd => ?_⟩
    ·rcases Nat.lt_or_eq_of_le (Nat.le_of_lt_succ hj) with h | rfl
     ·exact i1 j a h ha
     ·rw [htk] at ha; cases ha; exact c2 rfl
    ·rcases Nat.lt_or_eq_of_le (Nat.le_of_lt_succ hj) with h | rfl
     ·exact i3 i j a d hij h ha hd
     ·rw [htk] at hd; cases hd
      have hk1 : x.terms[j - 1]? = some (x.terms[j - 1]'(by omega)) := List.getElem?_eq_getElem (by omega)
      have h1 := hbo rfl _ (by omega) hk1
      rcases Nat.lt_or_eq_of_le (Nat.le_sub_one_of_lt hij) with h | rfl
      ·exact cmpS_trans (i3 i (j - 1) a _ h (by omega) ha hk1) h1
      ·rw [hk1] at ha; cases ha; exact h1
   ·refine Or.inl ⟨c, ?_, ?_, hc0⟩
    ·rw [if_pos (by simpa using hc0)]
    ·rw [if_neg hc0]
     rfl) with ⟨r, a1, a2, h⟩ | ⟨_, _, a1, a2, i1, i3⟩
 ·exact Or.inl ⟨r, a1, a2, h⟩
 ·refine Or.inr ⟨a1, a2, hx, fun t ht => ?_, fun i j t u hij ht hu => i3 i j t u hij (List.getElem?_eq_some_iff.1 hu).1 ht hu⟩
  obtain ⟨j, hj⟩ := List.mem_iff_getElem?.1 ht
  exact i1 j t (List.getElem?_eq_some_iff.1 hj).1 hj
theorem index_eq (x : know_Index) (hs : Small x) : ∃ c, know_CheckIndex x = some c ∧ portref2_IndexFault x = some c ∧ (c = 0 → IndexOk x) := by
 unfold know_CheckIndex portref2_IndexFault
 cases h1 : decide ((200 : Int) < (x.ids.length : Int)) with
 | true => exact ⟨4, rfl, rfl, fun h => absurd h (by decide)⟩
 | false =>
 cases h2 : ((x.sizes.length : Int) != (x.ids.length : Int)) with
 | true => exact ⟨1, rfl, rfl, fun h => absurd h (by decide)⟩
 | false =>
 rw [decide_eq_false_iff_not] at h1
 have hsz : x.sizes.length = x.ids.length := by simp at h2; omega
 simp only [Bool.false_eq_true, if_false]
 rcases ids_eq x (by omega) hsz with ⟨r, a1, a2, h⟩ | ⟨a1, a2, hx⟩
 ·rw [a1, a2]
  exact ⟨r, rfl, rfl, fun h0 => absurd h0 h⟩
 rw [a1, a2]
 simp only [Option.bind_some, Lp.andThen_fin]
 rcases terms_eq hx hs with ⟨r, a1, a2, h⟩ | ⟨a1, a2, hx⟩
 ·rw [a1, a2]
  exact ⟨r, rfl, rfl, fun h0 => absurd h0 h⟩
 ·rw [a1, a2]
  exact ⟨0, rfl, rfl, fun _ => hx⟩
end Go.Proofs.YtldkdabcdbgpbaaGreatDoor.M
