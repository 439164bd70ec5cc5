/-
  An index with one more entry: plain part.
-/
import Derived.Test.YtldkdabcdbgpbaaGreatDoorIndexMakesKxB
namespace Go.Proofs.YtldkdabcdbgpbaaGreatDoor.M
open Go Go.Pu
set_option linter.unusedSimpArgs false
set_option linter.unusedVariables false

theorem cmpS_tot (a b : ByteArray) : cmpS a b < 0 ∨ a = b ∨ cmpS b a < 0 := by
  have h1 := cmpS_swap a b
  have h2 := cmpS_zero a b
  by_cases h : cmpS a b = 0
  · exact .inr (.inl (h2.1 h))
  · omega
def wordO : KeyOrd know_Term ByteArray := ⟨fun t => t.word, fun a b => cmpS a b < 0, fun a h => by rw [cmpS_self] at h; omega, fun _ _ _ h1 h2 => cmpS_trans h1 h2, cmpS_tot⟩
def idO : KeyOrd know_Posting Int := ⟨fun p => p.id_, fun a b => a < b, fun a h => by omega, fun _ _ _ h1 h2 => by omega, fun a b => by omega⟩

/-- the terms of an index: which stems, and the postings of each -/
structure Terms (has : ByteArray → Prop) (lst : ByteArray → List know_Posting) (T : List know_Term) : Prop where
  rise : wordO.Rise T
  mem : ∀ t : know_Term, t ∈ T ↔ has t.word ∧ t.list_ = lst t.word
theorem Terms.uniq {has : ByteArray → Prop} {lst : ByteArray → List know_Posting} {T T' : List know_Term} (h : Terms has lst T) (h' : Terms has lst T') : T = T' :=
  rise_ext (r := fun a b : know_Term => cmpS a.word b.word < 0) (fun a h => by rw [cmpS_self] at h; omega) (fun _ _ _ h1 h2 => cmpS_trans h1 h2) h.rise h'.rise fun x => by rw [h.mem, h'.mem]
theorem Terms.cong {has has' : ByteArray → Prop} {lst lst' : ByteArray → List know_Posting} {T : List know_Term} (h : Terms has lst T) (e1 : ∀ s, has s ↔ has' s) (e2 : ∀ s, has s → lst s = lst' s) : Terms has' lst' T :=
  ⟨h.rise, fun t => by
    rw [h.mem]
    constructor
    · rintro ⟨h1, h2⟩
      exact ⟨(e1 _).1 h1, h2.trans (e2 _ h1)⟩
    · rintro ⟨h1, h2⟩
      exact ⟨(e1 _).2 h1, h2.trans (e2 _ ((e1 _).2 h1)).symm⟩⟩
theorem byWord_val (a b : know_Term) : know_byWord a b = some (cmpS a.word b.word) := rfl
theorem compare_ii (x y : Int) : cmp_Compare_int x y = (if x < y then -1 else if y < x then 1 else 0) := by
  unfold cmp_Compare_int cmp_isNaN_int
  simp
theorem int_ord (a b : Int) : (cmp_Compare_int a b < 0 ↔ a < b) ∧ (cmp_Compare_int a b = 0 ↔ a = b) := by
  rw [compare_ii]
  by_cases h1 : a < b
  · rw [if_pos h1]; omega
  · rw [if_neg h1]
    by_cases h2 : b < a
    · rw [if_pos h2]; omega
    · rw [if_neg h2]; omega
theorem mergeP_val (a b : List know_Posting) (h : a.length + b.length ≤ 2513169434916) : know_merged_know_Posting a b (fun y136 y137 => know_byId y136 y137) = some (idO.mrg a b) := by
  obtain ⟨s6, y, h1, h2, h3⟩ := merge_loop (R := List know_Posting) idO (fun y136 y137 => know_byId y136 y137) 2513169434916 (fun a b => ⟨_, rfl, int_ord a.id_ b.id_⟩) a b h _ fun s => rfl
  unfold know_merged_know_Posting
  rw [h1, Option.bind_some, Lp.andThen_fin, h2, Option.bind_some, h3]
  rfl
theorem mergeT_val (a b : List know_Term) (h : a.length + b.length ≤ 3518437208883) : know_merged_know_Term a b (fun y264 y265 => know_byWord y264 y265) = some (wordO.mrg a b) := by
  obtain ⟨s6, y, h1, h2, h3⟩ := merge_loop (R := List know_Term) wordO (fun y264 y265 => know_byWord y264 y265) 3518437208883 (fun a b => ⟨_, byWord_val a b, Iff.rfl, cmpS_zero a.word b.word⟩) a b h _ fun s => rfl
  unfold know_merged_know_Term
  rw [h1, Option.bind_some, Lp.andThen_fin, h2, Option.bind_some, h3]
  rfl
/-- a term is looked for by its word -/
theorem bfind_val {T : List know_Term} (hT : wordO.Rise T) (hl : T.length ≤ 2000000000000000000) (t : know_Term) : ∃ (a : Nat) (b : Bool), slices_BinarySearchFunc_Lknow_Term_know_Term_know_Term T t (fun y90 y91 => know_byWord y90 y91) = some ((a : Int), b) ∧ (b = true → ∃ u, T[a]? = some u ∧ u.word = t.word) ∧ (b = false → ∀ u ∈ T, u.word ≠ t.word) := by
  have hT2 : ∀ (p q : Nat) (x y : know_Term), p < q → T[p]? = some x → T[q]? = some y → cmpS x.word y.word < 0 := fun p q x y hpq hx hy => by
    obtain ⟨hp, rfl⟩ := List.getElem?_eq_some_iff.1 hx
    obtain ⟨hq, rfl⟩ := List.getElem?_eq_some_iff.1 hy
    exact List.pairwise_iff_getElem.1 hT p q hp hq hpq
  obtain ⟨a, ha, ho, hlo, hhi⟩ := search_loop (R := Int × Bool) hl (fun x => some (decide (cmpS x.word t.word < 0))) (fun x => decide (cmpS x.word t.word < 0)) (fun _ _ => rfl) (fun p q x y hpq hx hy hd => by
    rw [decide_eq_true_eq] at hd ⊢
    exact cmpS_trans (hT2 p q x y hpq hx hy) hd)
    (fun s20 => if (decide (s20.1 < s20.2)) = true then Option.bind (Option.bind (shr .u64 (IntKind.wrap .u64 (w64 (s20.1 + s20.2))) 1) fun x40 => Option.bind (idx T (IntKind.wrap .i64 x40)) fun x41 => Option.bind (know_byWord x41 t) fun x51 => Option.bind (if (decide (x51 < 0)) = true then some (w64 ((IntKind.wrap .i64 x40) + 1), s20.2) else some (s20.1, IntKind.wrap .i64 x40)) fun s56 => some (s56.1, s56.2)) fun s33 => some (.nx (s33.1, s33.2)) else some (.bk (s20.1, s20.2)))
    (fun s => by
      split
      · cases shr .u64 (IntKind.wrap .u64 (w64 (s.1 + s.2))) 1 with
        | none => rfl
        | some v =>
          simp only [Option.bind_some]
          cases idx T (IntKind.wrap .i64 v) with
          | none => rfl
          | some x =>
            simp only [Option.bind_some, byWord_val]
            split <;> rfl
      · rfl)
  unfold slices_BinarySearchFunc_Lknow_Term_know_Term_know_Term
  rw [ho, Option.bind_some, Lp.andThen_fin]
  dsimp only
  by_cases hlt : a < T.length
  · rw [if_pos (decide_eq_true (show (a : Int) < (T.length : Int) by omega)), idx_nat, List.getElem?_eq_getElem hlt]
    simp only [Option.bind_some, byWord_val]
    refine ⟨a, _, rfl, fun h => ⟨T[a], List.getElem?_eq_getElem hlt, (cmpS_zero _ _).1 (by simpa using h)⟩, fun h u hu e => ?_⟩
    have h0 : cmpS T[a].word t.word ≠ 0 := by simpa using h
    have h1 := hhi a T[a] (Nat.le_refl _) (List.getElem?_eq_getElem hlt)
    have h2 : ¬ cmpS T[a].word t.word < 0 := by simpa using h1
    obtain ⟨i, hi, rfl⟩ := List.mem_iff_getElem.1 hu
    have e0 : cmpS T[i].word t.word = 0 := by rw [e]; exact cmpS_self _
    rcases Nat.lt_trichotomy i a with h3 | rfl | h3
    · have := hlo i T[i] h3 (List.getElem?_eq_getElem hi)
      rw [decide_eq_true_eq] at this
      omega
    · exact h0 e0
    · have h4 := hT2 a i T[a] T[i] h3 (List.getElem?_eq_getElem hlt) (List.getElem?_eq_getElem hi)
      rw [e] at h4
      exact h2 h4
  · rw [if_neg (by simp; omega)]
    refine ⟨a, false, rfl, (fun h => by cases h), fun _ u hu e => ?_⟩
    obtain ⟨i, hi, rfl⟩ := List.mem_iff_getElem.1 hu
    have := hlo i T[i] (by omega) (List.getElem?_eq_getElem hi)
    rw [decide_eq_true_eq, e, cmpS_self] at this
    omega
/-- the place of a number among rising ones -/
theorem bint_val {l : List Int} (hl : l.length ≤ 2000000000000000000) (hs : l.Pairwise (· < ·)) (v : Int) : ∃ (a : Nat) (b : Bool), slices_BinarySearch_Lint_int l v = some ((a : Int), b) ∧ a ≤ l.length ∧ (∀ q x, q < a → l[q]? = some x → x < v) ∧ (∀ q x, a ≤ q → l[q]? = some x → v ≤ x) ∧ (b = true ↔ v ∈ l) := by
  have hs2 : ∀ (p q : Nat) (x y : Int), p < q → l[p]? = some x → l[q]? = some y → x < y := fun p q x y hpq hx hy => by
    obtain ⟨hp, rfl⟩ := List.getElem?_eq_some_iff.1 hx
    obtain ⟨hq, rfl⟩ := List.getElem?_eq_some_iff.1 hy
    exact List.pairwise_iff_getElem.1 hs p q hp hq hpq
  have less : ∀ a b : Int, cmp_Less_int a b = decide (a < b) := fun a b => by
    unfold cmp_Less_int
    by_cases h : a < b <;> simp [h, cmp_isNaN_int]
  obtain ⟨a, ha, ho, hlo, hhi⟩ := search_loop (R := Int × Bool) hl (fun x => some (decide (x < v))) (fun x => decide (x < v)) (fun _ _ => rfl) (fun p q x y hpq hx hy hd => by
    rw [decide_eq_true_eq] at hd ⊢
    have := hs2 p q x y hpq hx hy
    omega)
    (fun s10 => if (decide (s10.1 < s10.2)) = true then Option.bind (Option.bind (shr .u64 (IntKind.wrap .u64 (w64 (s10.1 + s10.2))) 1) fun x26 => Option.bind (idx l (IntKind.wrap .i64 x26)) fun x27 => Option.bind (if (cmp_Less_int x27 v) = true then some (w64 ((IntKind.wrap .i64 x26) + 1), s10.2) else some (s10.1, IntKind.wrap .i64 x26)) fun s32 => some (s32.1, s32.2)) fun s21 => some (.nx (s21.1, s21.2)) else some (.bk (s10.1, s10.2)))
    (fun s => by
      split
      · cases shr .u64 (IntKind.wrap .u64 (w64 (s.1 + s.2))) 1 with
        | none => rfl
        | some v =>
          simp only [Option.bind_some]
          cases idx l (IntKind.wrap .i64 v) with
          | none => rfl
          | some x =>
            simp only [Option.bind_some, less]
            split <;> rfl
      · rfl)
  unfold slices_BinarySearch_Lint_int
  rw [ho, Option.bind_some, Lp.andThen_fin]
  dsimp only
  have up : ∀ q x, a ≤ q → l[q]? = some x → v ≤ x := fun q x h1 h2 => by
    have := hhi q x h1 h2
    rw [decide_eq_false_iff_not] at this
    omega
  have low : ∀ q x, q < a → l[q]? = some x → x < v := fun q x h1 h2 => by
    have := hlo q x h1 h2
    rwa [decide_eq_true_eq] at this
  by_cases hlt : a < l.length
  · rw [if_pos (decide_eq_true (show (a : Int) < (l.length : Int) by omega)), idx_nat, List.getElem?_eq_getElem hlt]
    simp only [Option.bind_some]
    by_cases he : l[a] = v
    · have : (l[a] == v) = true := by simpa using he
      simp only [this, if_true, Option.bind_some]
      exact ⟨a, true, rfl, ha, low, up, fun _ => by rw [← he]; exact List.getElem_mem hlt, fun _ => rfl⟩
    · have : (l[a] == v) = false := by simpa using he
      simp only [this, Bool.false_eq_true, if_false, Option.bind_some, slices_isNaN_int, bne_self_eq_false, Bool.and_self]
      refine ⟨a, false, rfl, ha, low, up, (fun h => by cases h), fun hv => ?_⟩
      exfalso
      obtain ⟨i, hi, rfl⟩ := List.mem_iff_getElem.1 hv
      rcases Nat.lt_trichotomy i a with h3 | rfl | h3
      · have := low i _ h3 (List.getElem?_eq_getElem hi); omega
      · exact he rfl
      · have := hs2 a i _ _ h3 (List.getElem?_eq_getElem hlt) (List.getElem?_eq_getElem hi)
        have := up a _ (Nat.le_refl _) (List.getElem?_eq_getElem hlt)
        omega
  · rw [if_neg (by simp; omega)]
    refine ⟨a, false, rfl, ha, low, up, (fun h => by cases h), fun hv => ?_⟩
    exfalso
    obtain ⟨i, hi, rfl⟩ := List.mem_iff_getElem.1 hv
    have := low i _ (by omega) (List.getElem?_eq_getElem hi)
    omega

open Classical in
/-- one more entry -/
theorem with_val {x : know_Index} {v : know_Entry} {has : ByteArray → Prop} {lst : ByteArray → List know_Posting} (hT : Terms has lst x.terms) (hz : ∀ s, ¬ has s → lst s = []) (hids : x.ids.Pairwise (· < ·)) (hl : x.terms.length ≤ 1000000000) (hll : ∀ t ∈ x.terms, t.list_.length ≤ 1000000000) (hil : x.ids.length ≤ 1000000) (hsl : x.sizes.length = x.ids.length)
    (ht : v.title.size ≤ 200) (hb : v.body.size ≤ 20000) :
    ∃ (k : Nat) (T' : List know_Term), k ≤ x.ids.length ∧ (∀ q a, q < k → x.ids[q]? = some a → a < v.id_) ∧ (∀ q a, k ≤ q → x.ids[q]? = some a → v.id_ ≤ a) ∧
      know_Index_with x v = some ⟨x.ids.take k ++ [v.id_] ++ x.ids.drop k, x.sizes.take k ++ [((stemsL v.title).length : Int) + ((stemsL v.body).length : Int)] ++ x.sizes.drop k, T'⟩ ∧
      Terms (fun s => has s ∨ hasS v s) (fun s => if hasS v s then idO.mrg (lst s) [postOf v s] else lst s) T' ∧ T'.length ≤ x.terms.length + 20200 := by
  obtain ⟨q, hp, hq1, hq2, hq3⟩ := postings_val v ht hb
  obtain ⟨k, b, hk, hk1, hk2, hk3, _⟩ := bint_val (l := x.ids) (by omega) hids v.id_
  -- a term of the entry, with what the index has of it
  let F : know_Term → know_Term := fun t => if has t.word then ⟨t.word, idO.mrg (lst t.word) t.list_⟩ else t
  have hF : ∀ s, F ⟨s, [postOf v s]⟩ = ⟨s, idO.mrg (lst s) [postOf v s]⟩ := fun s => by
    show (if has s then (⟨s, idO.mrg (lst s) [postOf v s]⟩ : know_Term) else ⟨s, [postOf v s]⟩) = _
    split
    · rfl
    · rename_i h
      rw [hz s h, KeyOrd.mrg_nil]
  have hLl : (q.map fun s => (⟨s, [postOf v s]⟩ : know_Term)).length = q.length := List.length_map _
  obtain ⟨L', hL, hL2⟩ := rangeB_inv (R := know_Index) (b := fun k35 s43 => Option.bind (Option.bind (idx s43 (k35 : Int)) fun x68 => Option.bind (slices_BinarySearchFunc_Lknow_Term_know_Term_know_Term x.terms x68 (fun y90 y91 => know_byWord y90 y91)) fun x92 => Option.bind (if x92.2 = true then Option.bind (idx x.terms x92.1) fun x124 => Option.bind (know_merged_know_Posting x124.list_ x68.list_ (fun y136 y137 => know_byId y136 y137)) fun x138 => Option.bind (setI s43 (k35 : Int) ({ (x68 : know_Term) with list_ := x138 })) fun x176 => some x176 else some s43) fun s111 => some s111) fun s59 => some (.nx s59))
    q.length (fun k s => s = (q.take k).map (fun s => F ⟨s, [postOf v s]⟩) ++ (q.drop k).map fun s => (⟨s, [postOf v s]⟩ : know_Term)) (s := q.map fun s => (⟨s, [postOf v s]⟩ : know_Term)) (by simp) (fun k s hk hs => by
    subst hs
    have hx : q[k]? = some q[k] := List.getElem?_eq_getElem hk
    have hd : q.drop k = q[k] :: q.drop (k + 1) := List.drop_eq_getElem_cons hk
    have htk : q.take (k + 1) = q.take k ++ [q[k]] := by rw [List.take_add_one, hx]; rfl
    rw [hd, htk]
    generalize q[k] = s at hx
    have hlen : ((q.take k).map (fun s => F ⟨s, [postOf v s]⟩)).length = k := by rw [List.length_map, List.length_take]; omega
    have hix : idx ((q.take k).map (fun s => F ⟨s, [postOf v s]⟩) ++ (s :: q.drop (k + 1)).map fun s => (⟨s, [postOf v s]⟩ : know_Term)) (k : Int) = some ⟨s, [postOf v s]⟩ := by
      rw [idx_nat, List.getElem?_append_right (by omega), hlen, Nat.sub_self]
      rfl
    have hset : ∀ y : know_Term, setI ((q.take k).map (fun s => F ⟨s, [postOf v s]⟩) ++ (s :: q.drop (k + 1)).map fun s => (⟨s, [postOf v s]⟩ : know_Term)) (k : Int) y = some ((q.take k).map (fun s => F ⟨s, [postOf v s]⟩) ++ y :: (q.drop (k + 1)).map fun s => (⟨s, [postOf v s]⟩ : know_Term)) := fun y => by
      have hlt : k < ((q.take k).map (fun s => F ⟨s, [postOf v s]⟩) ++ (s :: q.drop (k + 1)).map fun s => (⟨s, [postOf v s]⟩ : know_Term)).length := by
        rw [List.length_append, hlen]
        simp
      rw [setI, if_pos ⟨by omega, by rw [Int.toNat_natCast]; exact hlt⟩, Int.toNat_natCast, List.set_append_right _ _ (by omega), hlen, Nat.sub_self]
      rfl
    obtain ⟨a, b, hb1, hb2, hb3⟩ := bfind_val hT.rise (by omega) ⟨s, [postOf v s]⟩
    rw [hix, Option.bind_some, hb1, Option.bind_some]
    dsimp only
    cases b with
    | true =>
      obtain ⟨u, hu, hw⟩ := hb2 rfl
      dsimp only at hw
      have hum := List.mem_of_getElem? hu
      obtain ⟨g1, g2⟩ := (hT.mem u).1 hum
      rw [hw] at g1 g2
      rw [if_pos rfl, idx_nat, hu, Option.bind_some, mergeP_val _ _ (by have := hll u hum; simp; omega), Option.bind_some, hset]
      refine ⟨_, rfl, ?_⟩
      rw [List.map_append, List.append_assoc]
      congr 1
      show _ :: _ = F ⟨s, [postOf v s]⟩ :: _
      rw [hF, g2]
      rfl
    | false =>
      rw [if_neg (by decide)]
      refine ⟨_, rfl, ?_⟩
      have hno : ¬ has s := fun h => hb3 rfl ⟨s, lst s⟩ ((hT.mem _).2 ⟨h, rfl⟩) rfl
      rw [List.map_append, List.append_assoc]
      congr 1
      show _ :: _ = F ⟨s, [postOf v s]⟩ :: _
      rw [hF, hz s hno, KeyOrd.mrg_nil]
      rfl)
  rw [List.take_length, List.drop_length, List.map_nil, List.append_nil] at hL2
  have hL3 : L' = q.map fun s => (⟨s, idO.mrg (lst s) [postOf v s]⟩ : know_Term) := by
    rw [hL2]
    exact List.map_congr_left fun s _ => hF s
  have hLr : wordO.Rise L' := by
    rw [hL3]
    show List.Pairwise _ _
    rw [List.pairwise_map]
    exact hq1
  have hspec := KeyOrd.mrg_spec (O := wordO) _ x.terms L' rfl hT.rise hLr
  have hmlen := KeyOrd.mrg_len (O := wordO) _ x.terms L' rfl
  have hLlen : L'.length = q.length := by rw [hL3, List.length_map]
  refine ⟨k, wordO.mrg x.terms L', hk1, hk2, hk3, ?_, ⟨hspec.1, fun t => ?_⟩, by omega⟩
  · unfold know_Index_with
    rw [hp, Option.bind_some]
    dsimp only
    rw [hLl, hL, Option.bind_some, Lp.andThen_fin, hk, Option.bind_some]
    have hc : ∀ l : List Int, l.length ≤ 1000000 → slices_Clone_Lint_int l = some l := fun l h => by
      unfold slices_Clone_Lint_int appendL
      rw [if_pos (by simp; omega)]
      rfl
    have hi : ∀ (l : List Int) (z : Int), l.length = x.ids.length → slices_Insert_Lint_int l (k : Int) [z] = some (l.take k ++ [z] ++ l.drop k) := fun l z h => by
      unfold slices_Insert_Lint_int
      rw [if_pos ⟨by omega, by omega, by simp, by rw [List.length_singleton]; omega⟩, Int.toNat_natCast]
    dsimp only
    rw [hc _ hil, Option.bind_some, hi _ _ rfl, Option.bind_some, hc _ (by omega), Option.bind_some, hi _ _ hsl, Option.bind_some, mergeT_val _ _ (by omega), Option.bind_some]
  · rw [hspec.2]
    have hmem : t ∈ L' ↔ hasS v t.word ∧ t.list_ = idO.mrg (lst t.word) [postOf v t.word] := by
      rw [hL3, List.mem_map]
      constructor
      · rintro ⟨s, hs, rfl⟩
        exact ⟨(hq2 s).1 hs, rfl⟩
      · rintro ⟨h1, h2⟩
        exact ⟨t.word, (hq2 _).2 h1, by rw [← h2]⟩
    have hno : (∀ y ∈ L', wordO.key y ≠ wordO.key t) ↔ ¬ hasS v t.word := by
      constructor
      · intro h1 h2
        exact h1 ⟨t.word, idO.mrg (lst t.word) [postOf v t.word]⟩ (by rw [hL3]; exact List.mem_map.2 ⟨t.word, (hq2 _).2 h2, rfl⟩) rfl
      · intro h1 y hy e
        rw [hL3] at hy
        obtain ⟨s, hs, rfl⟩ := List.mem_map.1 hy
        have e2 : s = t.word := e
        rw [← e2] at h1
        exact h1 ((hq2 s).1 hs)
    rw [hmem, hno, hT.mem]
    by_cases hh : hasS v t.word
    · simp [hh]
    · simp [hh]
end Go.Proofs.YtldkdabcdbgpbaaGreatDoor.M
