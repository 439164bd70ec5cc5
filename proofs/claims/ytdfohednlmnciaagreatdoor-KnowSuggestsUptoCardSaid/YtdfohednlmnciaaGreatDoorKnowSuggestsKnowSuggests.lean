/-
  Suggest and its reference agree: plain part.
-/
import Derived.Test.YtdfohednlmnciaaGreatDoorKnowSuggestsKnwCheck
import Derived.Test.YtdfohednlmnciaaGreatDoorKnowSuggestsKnwFind
import Derived.Test.YtdfohednlmnciaaGreatDoorKnowSuggestsKnwStem
namespace Go.Proofs.YtdfohednlmnciaaGreatDoor.M
open Go Go.Pu
set_option linter.unusedSimpArgs false
set_option linter.unusedVariables false

theorem mapGet_put2 {κ α : Type} [DecidableEq κ] (l : List (κ × α)) (k k' : κ) (v : α) : mapGet (mapPut l k v) k' = if k = k' then some v else mapGet l k' := by
  unfold mapPut
  by_cases h : ∃ p ∈ l, p.1 = k
  · rw [if_pos h]
    induction l with
    | nil => obtain ⟨p, hp, _⟩ := h; simp at hp
    | cons p l ih =>
      rw [List.map_cons, mapGet, mapGet]
      by_cases hp : p.1 = k
      · rw [if_pos hp]
        by_cases hk : k = k'
        · rw [if_pos hk, if_pos hk]
        · rw [if_neg hk, if_neg hk, if_neg (by rw [hp]; exact hk)]
          by_cases h2 : ∃ p ∈ l, p.1 = k
          · rw [ih h2, if_neg hk]
          · have : l.map (fun q => if q.1 = k then (k, v) else q) = l := by
              conv => rhs; rw [← List.map_id l]
              apply List.map_congr_left
              intro q hq
              rw [if_neg (fun e => h2 ⟨q, hq, e⟩)]
              rfl
            rw [this]
      · rw [if_neg hp]
        have h2 : ∃ p ∈ l, p.1 = k := by
          obtain ⟨q, hq, e⟩ := h
          rcases List.mem_cons.1 hq with rfl | hq
          · exact absurd e hp
          · exact ⟨q, hq, e⟩
        by_cases hp' : p.1 = k'
        · rw [if_pos hp', if_pos hp', if_neg (fun e => hp (hp'.trans e.symm))]
        · rw [if_neg hp', if_neg hp', ih h2]
  · rw [if_neg h]
    induction l with
    | nil => simp [mapGet]
    | cons p l ih =>
      have hp : p.1 ≠ k := fun e => h ⟨p, by simp, e⟩
      have h2 : ¬ ∃ p ∈ l, p.1 = k := fun ⟨q, hq, e⟩ => h ⟨q, by simp [hq], e⟩
      rw [List.cons_append, mapGet, mapGet, ih h2]
      by_cases hp' : p.1 = k'
      · rw [if_pos hp', if_pos hp', if_neg (fun e => hp (hp'.trans e.symm))]
      · rw [if_neg hp', if_neg hp']
theorem rangeB_sim' {S S' R R' : Type} {b : Nat → S → Option (Ctl S R)} {b' : Nat → S' → Option (Ctl S' R')} (n : Nat) (I : Nat → S → S' → Prop) {s : S} {s' : S'} (h0 : I 0 s s')
    (round : ∀ k s s', k < n → I k s s' → ∃ t t', b k s = some (.nx t) ∧ b' k s' = some (.nx t') ∧ I (k + 1) t t') : ∃ t t', rangeB b n 0 s = some (.fin t) ∧ rangeB b' n 0 s' = some (.fin t') ∧ I n t t' := by
  have key : ∀ m k s s', k + m = n → I k s s' → ∃ t t', rangeB b m k s = some (.fin t) ∧ rangeB b' m k s' = some (.fin t') ∧ I n t t' := by
    intro m
    induction m with
    | zero =>
      intro k s s' hk hI
      obtain rfl : k = n := by omega
      exact ⟨s, s', rfl, rfl, hI⟩
    | succ m ih =>
      intro k s s' hk hI
      obtain ⟨t, t', h1, h2, hI'⟩ := round k s s' (by omega) hI
      rw [rangeB, rangeB, h1, h2]
      exact ih (k + 1) t t' (by omega) hI'
  exact key n 0 s s' (by omega) h0
theorem wordsF_size : ∀ (n : Nat) (l : List UInt8), ∀ w ∈ wordsF n l, w.size ≤ 30
  | 0, l => by simp [wordsF]
  | n + 1, l => by
    rw [wordsF]
    by_cases hl : l = []
    · rw [if_pos hl]; simp
    · rw [if_neg hl]
      intro w hw
      rcases List.mem_append.1 hw with h | h
      · unfold headW at h
        split at h
        · rename_i h2
          rw [List.mem_singleton] at h
          subst h
          show ((l.takeWhile wb).map low8).toArray.size ≤ 30
          simpa using h2.2
        · cases h
      · exact wordsF_size n _ w h

/-- terms of words, each once -/
structure Picked (x : know_Index) (L : List know_Term) : Prop where
  mem : ∀ t ∈ L, t ∈ x.terms
theorem same_word {x : know_Index} (hx : IndexOk x) {t u : know_Term} (ht : t ∈ x.terms) (hu : u ∈ x.terms) (h : t.word = u.word) : t = u := by
  obtain ⟨i, hi⟩ := List.mem_iff_getElem?.1 ht
  obtain ⟨j, hj⟩ := List.mem_iff_getElem?.1 hu
  rcases Nat.lt_trichotomy i j with h1 | h1 | h1
  · have := hx.words i j t u h1 hi hj
    rw [h, cmpS_self] at this
    cases this
  · subst h1; rw [hi] at hj; exact Option.some.inj hj
  · have := hx.words j i u t h1 hj hi
    rw [h, cmpS_self] at this
    cases this
theorem named_eq {x : know_Index} (hx : IndexOk x) (hs : Small x) (ws : List ByteArray) (hw : ∀ w ∈ ws, w.size ≤ 30) (hn : ws.length ≤ 1048576) :
    ∃ L m, rangeB (R := List know_Term) (fun k142 s150 => Option.bind (Option.bind (idx ws (k142 : Int)) fun x175 => Option.bind (know_Stem x175) fun x179 => Option.bind (know_Index_term x x179) fun x187 => Option.bind (if (x187.2 && (!((mapGet s150.2 x179).getD false))) = true then Option.bind (appendL 3518437208883 s150.1 ([x187.1] : List know_Term)) fun x231 => some (x231, (mapPut s150.2 x179 true)) else some (s150.1, s150.2)) fun s207 => some (s207.1, s207.2)) fun s166 => some (.nx (s166.1, s166.2))) ws.length 0 (([] : (List know_Term)), ([] : List (ByteArray × Bool))) = some (.fin (L, m)) ∧ rangeB (R := (List know_Hit) × Int) (fun k49 s57 => Option.bind (Option.bind (idx ws (k49 : Int)) fun x82 => Option.bind (portref2_StemOf x82) fun x87 => Option.bind (portref2_termOf x x87) fun x98 => Option.bind (if (x98.2 && (!((mapGet s57.2 x87).getD false))) = true then Option.bind (appendL 3518437208883 s57.1 ([x98.1] : List know_Term)) fun x142 => some (x142, (mapPut s57.2 x87 true)) else some (s57.1, s57.2)) fun s118 => some (s118.1, s118.2)) fun s73 => some (.nx (s73.1, s73.2))) ws.length 0 (([] : (List know_Term)), ([] : List (ByteArray × Bool))) = some (.fin (L, m)) ∧ Picked x L ∧ L.length ≤ ws.length := by
  rcases rangeB_sim' (R := List know_Term) (R' := (List know_Hit) × Int) (b := fun k142 s150 => Option.bind (Option.bind (idx ws (k142 : Int)) fun x175 => Option.bind (know_Stem x175) fun x179 => Option.bind (know_Index_term x x179) fun x187 => Option.bind (if (x187.2 && (!((mapGet s150.2 x179).getD false))) = true then Option.bind (appendL 3518437208883 s150.1 ([x187.1] : List know_Term)) fun x231 => some (x231, (mapPut s150.2 x179 true)) else some (s150.1, s150.2)) fun s207 => some (s207.1, s207.2)) fun s166 => some (.nx (s166.1, s166.2))) (b' := fun k49 s57 => Option.bind (Option.bind (idx ws (k49 : Int)) fun x82 => Option.bind (portref2_StemOf x82) fun x87 => Option.bind (portref2_termOf x x87) fun x98 => Option.bind (if (x98.2 && (!((mapGet s57.2 x87).getD false))) = true then Option.bind (appendL 3518437208883 s57.1 ([x98.1] : List know_Term)) fun x142 => some (x142, (mapPut s57.2 x87 true)) else some (s57.1, s57.2)) fun s118 => some (s118.1, s118.2)) fun s73 => some (.nx (s73.1, s73.2))) ws.length (fun k s s' => s = s' ∧ Picked x s.1 ∧ s.1.length ≤ k) (s := (([] : (List know_Term)), ([] : List (ByteArray × Bool)))) (s' := (([] : (List know_Term)), ([] : List (ByteArray × Bool)))) ⟨rfl, ⟨fun t h => by cases h⟩, Nat.le_refl _⟩ (by
    rintro k s _ hk ⟨rfl, hp, hle⟩
    rw [idx_lt _ _ hk]
    have hwk := hw _ (List.getElem_mem hk)
    generalize ws[k] = w at hwk
    obtain ⟨y, y1, y2⟩ := stem_eq w (by omega)
    obtain ⟨r, r1, r2, r3⟩ := find_term hx hs y
    simp only [Option.bind_some, y1, y2, r1, r2]
    cases hc : (r.2 && (!((mapGet s.2 y).getD false))) with
    | false => exact ⟨s, s, rfl, rfl, rfl, hp, by omega⟩
    | true =>
      simp only [if_true, appendL]
      rw [if_pos (by simp; omega)]
      have hr2 : r.2 = true := by rw [Bool.and_eq_true] at hc; exact hc.1
      refine ⟨_, _, rfl, rfl, rfl, ⟨fun t ht => ?_⟩, by simp; omega⟩
      rcases List.mem_append.1 ht with h | h
      · exact hp.mem t h
      · rw [List.mem_singleton] at h; subst h; exact (r3 hr2).1) with ⟨⟨L, m⟩, _, a1, a2, rfl, a3, a4⟩
  exact ⟨L, m, a1, a2, a3, a4⟩

theorem or_two_ints (a b : Int) : cmp_Or_int [a, b] = some (if a ≠ 0 then a else b) := by
  by_cases ha : a = 0
  · by_cases hb : b = 0 <;> simp [cmp_Or_int, ha, hb, rangeB, idx, Lp.andThen]
  · simp [cmp_Or_int, ha, rangeB, idx, Lp.andThen]
/-- the shorter list ahead, then by the word -/
def tl (a b : know_Term) : Prop := a.list_.length < b.list_.length ∨ a.list_.length = b.list_.length ∧ cmpS a.word b.word < 0
theorem sug_val (a b : know_Term) : ∃ v, know_Suggest_1 a b = some v ∧ portref2_SuggestOf_1 a b = some v ∧ (v < 0 ↔ tl a b) := by
  have e1 : know_byWord a b = some (cmpS a.word b.word) := rfl
  have e2 : strings_Compare a.word b.word = some (cmpS a.word b.word) := rfl
  unfold know_Suggest_1 portref2_SuggestOf_1
  simp only [e1, e2, Option.bind_some, or_two_ints, compare_ii]
  refine ⟨_, rfl, rfl, ?_⟩
  unfold tl
  split <;> split <;> (try split) <;> omega
theorem tl_ntrans {a b c : know_Term} (h1 : ¬ tl a b) (h2 : ¬ tl b c) : ¬ tl a c := by
  unfold tl at h1 h2 ⊢
  rintro (h | ⟨h, h3⟩)
  · omega
  · have e1 : a.list_.length = b.list_.length := by omega
    have e2 : b.list_.length = c.list_.length := by omega
    have h4 : 0 ≤ cmpS a.word b.word := by omega
    have h5 : 0 ≤ cmpS b.word c.word := by omega
    rw [cmpS_swap] at h4
    by_cases h6 : cmpS b.word a.word = 0
    · rw [cmpS_zero] at h6
      rw [h6] at h5
      omega
    · have := cmpS_trans (show cmpS b.word a.word < 0 by omega) h3
      omega
theorem sort_terms {x : know_Index} (hx : IndexOk x) {L : List know_Term} (hp : Picked x L) (hl : L.length ≤ 1048576) : ∃ L', sortFuncL (fun y71 y72 => know_Suggest_1 y71 y72) L = some L' ∧ sortFuncL (fun y158 y159 => portref2_SuggestOf_1 y158 y159) L = some L' ∧ Picked x L' ∧ L'.length = L.length := by
  have hcmp : (fun y158 y159 => portref2_SuggestOf_1 y158 y159) = (fun y71 y72 => know_Suggest_1 y71 y72) := by
    funext a b
    obtain ⟨v, h1, h2, _⟩ := sug_val a b
    rw [h1, h2]
  have hlt : ∀ a b : know_Term, cmpLt (fun y71 y72 => know_Suggest_1 y71 y72) a b = true ↔ tl a b := fun a b => by
    obtain ⟨v, h1, _, h2⟩ := sug_val a b
    unfold cmpLt
    simp only [h1, decide_eq_true_eq]
    exact h2
  have hnl : ∀ a b : know_Term, cmpLt (fun y71 y72 => know_Suggest_1 y71 y72) a b = false ↔ ¬ tl a b := fun a b => by rw [← hlt, Bool.not_eq_true]
  have hok : SortOk (fun y71 y72 => know_Suggest_1 y71 y72) L := by
    refine ⟨by omega, fun a _ b _ => ?_, fun a _ => ?_, fun a _ b _ c _ => ?_, fun a _ b _ c _ => ?_, fun a ha b hb => ?_⟩
    · obtain ⟨v, h1, _⟩ := sug_val a b
      exact ⟨v, h1⟩
    · rw [hnl]; unfold tl; rw [cmpS_self]; omega
    · rw [hlt, hlt, hlt]
      intro h1 h2
      unfold tl at h1 h2 ⊢
      rcases h1 with h1 | ⟨h1, h3⟩
      · rcases h2 with h2 | ⟨h2, h4⟩ <;> left <;> omega
      · rcases h2 with h2 | ⟨h2, h4⟩
        · left; omega
        · right; exact ⟨by omega, cmpS_trans h3 h4⟩
    · rw [hnl, hnl, hnl]
      exact tl_ntrans
    · rw [hnl, hnl]
      intro h1 h2
      refine same_word hx (hp.mem a ha) (hp.mem b hb) ((cmpS_zero _ _).1 ?_)
      unfold tl at h1 h2
      have := cmpS_swap a.word b.word
      omega
  rw [hcmp]
  unfold sortFuncL
  rw [if_pos hok]
  refine ⟨_, rfl, rfl, ⟨fun t ht => hp.mem t ((List.mergeSort_perm _ _).mem_iff.1 ht)⟩, List.length_mergeSort _⟩

theorem take_val {α : Type} (l : List α) (m : Nat) (h : m ≤ l.length) : sliceL l none (some (m : Int)) = some (l.take m) := by
  unfold sliceL bounds
  simp only [Option.getD_some, Option.getD_none]
  rw [if_pos (by omega)]
  simp

theorem bits_some (n : Int) : ∃ v, math_bits_Len n = some v := by
  unfold math_bits_Len math_bits_Len64
  have hsh : ∀ (x : Int) (c : Int), 0 ≤ c → ∃ y, shr .u64 x c = some y := fun x c hc => by
    unfold shr
    rw [if_neg (by omega)]
    exact ⟨_, rfl⟩
  obtain ⟨a, ha⟩ := hsh n 32 (by decide)
  have hidx : ∀ b : UInt8, ∃ y, idxS (⟨#[0, 1, 2, 2, 3, 3, 3, 3, 4, 4, 4, 4, 4, 4, 4, 4, 5, 5, 5, 5, 5, 5, 5, 5, 5, 5, 5, 5, 5, 5, 5, 5, 6, 6, 6, 6, 6, 6, 6, 6, 6, 6, 6, 6, 6, 6, 6, 6, 6, 6, 6, 6, 6, 6, 6, 6, 6, 6, 6, 6, 6, 6, 6, 6, 7, 7, 7, 7, 7, 7, 7, 7, 7, 7, 7, 7, 7, 7, 7, 7, 7, 7, 7, 7, 7, 7, 7, 7, 7, 7, 7, 7, 7, 7, 7, 7, 7, 7, 7, 7, 7, 7, 7, 7, 7, 7, 7, 7, 7, 7, 7, 7, 7, 7, 7, 7, 7, 7, 7, 7, 7, 7, 7, 7, 7, 7, 7, 7, 8, 8, 8, 8, 8, 8, 8, 8, 8, 8, 8, 8, 8, 8, 8, 8, 8, 8, 8, 8, 8, 8, 8, 8, 8, 8, 8, 8, 8, 8, 8, 8, 8, 8, 8, 8, 8, 8, 8, 8, 8, 8, 8, 8, 8, 8, 8, 8, 8, 8, 8, 8, 8, 8, 8, 8, 8, 8, 8, 8, 8, 8, 8, 8, 8, 8, 8, 8, 8, 8, 8, 8, 8, 8, 8, 8, 8, 8, 8, 8, 8, 8, 8, 8, 8, 8, 8, 8, 8, 8, 8, 8, 8, 8, 8, 8, 8, 8, 8, 8, 8, 8, 8, 8, 8, 8, 8, 8, 8, 8, 8, 8, 8, 8, 8, 8, 8, 8, 8, 8, 8, 8, 8, 8, 8, 8, 8, 8]⟩ : ByteArray) ((b.toNat : Nat) : Int) = some y := fun b => by
    have hb := b.toNat_lt
    rw [idxS_list]
    have hl : (⟨#[0, 1, 2, 2, 3, 3, 3, 3, 4, 4, 4, 4, 4, 4, 4, 4, 5, 5, 5, 5, 5, 5, 5, 5, 5, 5, 5, 5, 5, 5, 5, 5, 6, 6, 6, 6, 6, 6, 6, 6, 6, 6, 6, 6, 6, 6, 6, 6, 6, 6, 6, 6, 6, 6, 6, 6, 6, 6, 6, 6, 6, 6, 6, 6, 7, 7, 7, 7, 7, 7, 7, 7, 7, 7, 7, 7, 7, 7, 7, 7, 7, 7, 7, 7, 7, 7, 7, 7, 7, 7, 7, 7, 7, 7, 7, 7, 7, 7, 7, 7, 7, 7, 7, 7, 7, 7, 7, 7, 7, 7, 7, 7, 7, 7, 7, 7, 7, 7, 7, 7, 7, 7, 7, 7, 7, 7, 7, 7, 8, 8, 8, 8, 8, 8, 8, 8, 8, 8, 8, 8, 8, 8, 8, 8, 8, 8, 8, 8, 8, 8, 8, 8, 8, 8, 8, 8, 8, 8, 8, 8, 8, 8, 8, 8, 8, 8, 8, 8, 8, 8, 8, 8, 8, 8, 8, 8, 8, 8, 8, 8, 8, 8, 8, 8, 8, 8, 8, 8, 8, 8, 8, 8, 8, 8, 8, 8, 8, 8, 8, 8, 8, 8, 8, 8, 8, 8, 8, 8, 8, 8, 8, 8, 8, 8, 8, 8, 8, 8, 8, 8, 8, 8, 8, 8, 8, 8, 8, 8, 8, 8, 8, 8, 8, 8, 8, 8, 8, 8, 8, 8, 8, 8, 8, 8, 8, 8, 8, 8, 8, 8, 8, 8, 8, 8, 8, 8]⟩ : ByteArray).data.toList.length = 256 := by decide +kernel
    exact ⟨_, List.getElem?_eq_getElem (by rw [hl]; exact hb)⟩
  have step : ∀ (c : Bool) (x y : Int) (k : Int) (hk : 0 ≤ k) (z : Int), ∃ p : Int × Int, (if c = true then Option.bind (shr .u64 x k) fun x8 => some (x8, z) else some (x, y)) = some p := fun c x y k hk z => by
    obtain ⟨u, hu⟩ := hsh x k hk
    cases c
    · exact ⟨_, rfl⟩
    · rw [hu]; exact ⟨_, rfl⟩
  obtain ⟨p1, h1⟩ := step (decide ((4294967296 : Int) ≤ n)) n 0 32 (by decide) 32
  rw [h1, Option.bind_some]
  obtain ⟨p2, h2⟩ := step (decide ((65536 : Int) ≤ p1.1)) p1.1 p1.2 16 (by decide) (w64 (p1.2 + 16))
  rw [h2, Option.bind_some]
  obtain ⟨p3, h3⟩ := step (decide ((256 : Int) ≤ p2.1)) p2.1 p2.2 8 (by decide) (w64 (p2.2 + 8))
  rw [h3, Option.bind_some]
  obtain ⟨y, hy⟩ := hidx (toU8 p3.1)
  rw [hy]
  exact ⟨_, rfl⟩

theorem score_eq {x : know_Index} (hx : IndexOk x) (hs : Small x) {t : know_Term} (ht : t ∈ x.terms) (k : Nat) (id : Int) (hk : x.ids[k]? = some id) :
    ∃ v, know_Index_score x t (k : Int) = some v ∧ portref2_termScore x t id = some v := by
  unfold know_Index_score portref2_termScore
  obtain ⟨r, r1, r2, r3⟩ := find_post (hx.terms t ht) (hs.list t ht) id
  rw [idx_nat, hk, Option.bind_some, r1, r2, Option.bind_some, Option.bind_some]
  cases hr : r.2 with
  | false => exact ⟨0, rfl, rfl⟩
  | true =>
    simp only [Bool.not_true, Bool.false_eq_true, if_false]
    have hne := (hx.terms t ht).ne
    have hpos : 0 < t.list_.length := List.length_pos_iff.2 hne
    have hq : quo (x.ids.length : Int) (t.list_.length : Int) = some (w64 ((x.ids.length : Int).tdiv (t.list_.length : Int))) := by
      unfold quo
      rw [if_neg (by omega)]
    obtain ⟨b, hb⟩ := bits_some (IntKind.wrap .u64 (w64 ((x.ids.length : Int).tdiv (t.list_.length : Int))))
    have hkl : k < x.ids.length := (List.getElem?_eq_some_iff.1 hk).1
    have hsl : k < x.sizes.length := by have := hx.sizes; omega
    have hz := hx.size _ (List.getElem_mem hsl)
    obtain ⟨a, _, b2, _⟩ := bsearch_val (l := x.ids) (by have := hx.len; omega) hx.rise id
    obtain ⟨c1, c2⟩ := b2 (List.mem_of_getElem? hk)
    have hak : a = k := by
      rcases Nat.lt_trichotomy a k with h | h | h
      · have := hx.rise a k id id h c1 hk; omega
      · exact h
      · have := hx.rise k a id id h hk c1; omega
    subst hak
    simp only [hq, Option.bind_some, hb, c2, idx_lt _ _ hsl]
    generalize x.sizes[a] = z at hz
    have hq2 : ∀ n : Int, ∃ v, quo n (w64 (z + 20)) = some v := fun n => by
      unfold quo
      rw [w64_id (by omega) (by omega), if_neg (by omega)]
      exact ⟨_, rfl⟩
    obtain ⟨v, hv⟩ := hq2 (w64 ((w64 ((w64 ((w64 (5 * (r.1.title.length : Int))) + (r.1.body.length : Int))) * 1000)) * b))
    rw [hv]
    exact ⟨v, rfl, rfl⟩

theorem contains_some (l : List Int) (v : Int) : ∃ b, slices_Contains_Lint_int l v = some b := by
  unfold slices_Contains_Lint_int slices_Index_Lint_int
  obtain ⟨o, ho, _⟩ := rangeB_spec (R := Int) (body := fun k6 (_ : Unit) => Option.bind (idx l (k6 : Int)) fun x21 => if (v == x21) = true then some (.rt (k6 : Int)) else some (.nx ())) l.length (fun _ _ => True) (fun _ => True) (s := ()) trivial (by
    intro k _ hk _
    rw [idx_lt l k hk, Option.bind_some]
    cases v == l[k]
    · exact ⟨_, rfl, trivial⟩
    · exact ⟨_, rfl, trivial⟩) (fun _ _ => trivial)
  rw [ho]
  cases o <;> exact ⟨_, rfl⟩

theorem hit_loop {x : know_Index} (hx : IndexOk x) (hs : Small x) {L : List know_Term} (hp : Picked x L) (k : Nat) (id : Int) (hk : x.ids[k]? = some id) :
    ∃ f v, rangeB (R := Empty) (fun k138 s144 => Option.bind (idx L (k138 : Int)) fun x157 => Option.bind (know_Term_posting x157 id) fun x179 => Option.bind (know_Index_score x x157 (k : Int)) fun x213 => some (.nx ((s144.1 || x179.2), w64 (s144.2 + x213)))) L.length 0 (false, 0) = some (.fin (f, v)) ∧ rangeB (R := Empty) (fun k233 s239 => Option.bind (idx L (k233 : Int)) fun x252 => Option.bind (portref2_postingOf x252 id) fun x274 => Option.bind (portref2_termScore x x252 id) fun x308 => some (.nx ((s239.1 || x274.2), (⟨s239.2.id_, w64 (s239.2.score + x308)⟩ : know_Hit)))) L.length 0 (false, (⟨id, 0⟩ : know_Hit)) = some (.fin (f, ⟨id, v⟩)) := by
  rcases rangeB_sim (R := Empty) (b := fun k138 s144 => Option.bind (idx L (k138 : Int)) fun x157 => Option.bind (know_Term_posting x157 id) fun x179 => Option.bind (know_Index_score x x157 (k : Int)) fun x213 => some (.nx ((s144.1 || x179.2), w64 (s144.2 + x213)))) (b' := fun k233 s239 => Option.bind (idx L (k233 : Int)) fun x252 => Option.bind (portref2_postingOf x252 id) fun x274 => Option.bind (portref2_termScore x x252 id) fun x308 => some (.nx ((s239.1 || x274.2), (⟨s239.2.id_, w64 (s239.2.score + x308)⟩ : know_Hit)))) L.length (fun _ => False) (fun _ s s' => s' = (s.1, (⟨id, s.2⟩ : know_Hit))) (s := (false, 0)) (s' := (false, ⟨id, 0⟩)) rfl (by
    rintro j ⟨f, v⟩ _ hj rfl
    rw [idx_lt _ _ hj]
    have htm := hp.mem _ (List.getElem_mem hj)
    generalize L[j] = t at htm
    obtain ⟨r, r1, r2, _⟩ := find_post (hx.terms t htm) (hs.list t htm) id
    obtain ⟨u, u1, u2⟩ := score_eq hx hs htm k id hk
    simp only [Option.bind_some, r1, r2, u1, u2]
    exact Or.inr ⟨_, _, rfl, rfl, rfl⟩) with ⟨_, _, _, h⟩ | ⟨⟨f, v⟩, _, a1, a2, rfl⟩
  · exact h.elim
  · exact ⟨f, v, a1, a2⟩

theorem hits_eq {x : know_Index} (hx : IndexOk x) (hs : Small x) {L : List know_Term} (hp : Picked x L) (sent : List Int) :
    ∃ H, rangeB (R := (List know_Hit) × Int) (fun k98 s106 => Option.bind (Option.bind (idx x.ids (k98 : Int)) fun x131 => Option.bind (rangeB (R := Empty) (fun k138 s144 => Option.bind (idx L (k138 : Int)) fun x157 => Option.bind (know_Term_posting x157 x131) fun x179 => Option.bind (know_Index_score x x157 (k98 : Int)) fun x213 => some (.nx ((s144.1 || x179.2), w64 (s144.2 + x213)))) L.length 0 (false, 0)) fun o135 => o135.andThen (fun y => y.elim) fun s136 => Option.bind (if s136.1 = true then (Option.bind (slices_Contains_Lint_int sent x131) fun x222 => some (!x222)) else (some false)) fun s221 => Option.bind (if s221 = true then Option.bind (appendL 8796093022208 s106 ([(⟨x131, s136.2⟩ : know_Hit)] : List know_Hit)) fun x239 => some x239 else some s106) fun s224 => some s224) fun s122 => some (.nx s122)) x.ids.length 0 ([] : (List know_Hit)) = some (.fin H) ∧ rangeB (R := (List know_Hit) × Int) (fun k185 s193 => Option.bind (Option.bind (idx x.ids (k185 : Int)) fun x218 => Option.bind (rangeB (R := Empty) (fun k233 s239 => Option.bind (idx L (k233 : Int)) fun x252 => Option.bind (portref2_postingOf x252 x218) fun x274 => Option.bind (portref2_termScore x x252 x218) fun x308 => some (.nx ((s239.1 || x274.2), (⟨s239.2.id_, w64 (s239.2.score + x308)⟩ : know_Hit)))) L.length 0 (false, (⟨x218, 0⟩ : know_Hit))) fun o230 => o230.andThen (fun y => y.elim) fun s231 => Option.bind (if s231.1 = true then (Option.bind (slices_Contains_Lint_int sent x218) fun x320 => some (!x320)) else (some false)) fun s319 => Option.bind (if s319 = true then Option.bind (appendL 8796093022208 s193 ([s231.2] : List know_Hit)) fun x337 => some x337 else some s193) fun s322 => some s322) fun s209 => some (.nx s209)) x.ids.length 0 ([] : (List know_Hit)) = some (.fin H) ∧ H.length ≤ 200 := by
  rcases rangeB_sim (R := (List know_Hit) × Int) (b := fun k98 s106 => Option.bind (Option.bind (idx x.ids (k98 : Int)) fun x131 => Option.bind (rangeB (R := Empty) (fun k138 s144 => Option.bind (idx L (k138 : Int)) fun x157 => Option.bind (know_Term_posting x157 x131) fun x179 => Option.bind (know_Index_score x x157 (k98 : Int)) fun x213 => some (.nx ((s144.1 || x179.2), w64 (s144.2 + x213)))) L.length 0 (false, 0)) fun o135 => o135.andThen (fun y => y.elim) fun s136 => Option.bind (if s136.1 = true then (Option.bind (slices_Contains_Lint_int sent x131) fun x222 => some (!x222)) else (some false)) fun s221 => Option.bind (if s221 = true then Option.bind (appendL 8796093022208 s106 ([(⟨x131, s136.2⟩ : know_Hit)] : List know_Hit)) fun x239 => some x239 else some s106) fun s224 => some s224) fun s122 => some (.nx s122)) (b' := fun k185 s193 => Option.bind (Option.bind (idx x.ids (k185 : Int)) fun x218 => Option.bind (rangeB (R := Empty) (fun k233 s239 => Option.bind (idx L (k233 : Int)) fun x252 => Option.bind (portref2_postingOf x252 x218) fun x274 => Option.bind (portref2_termScore x x252 x218) fun x308 => some (.nx ((s239.1 || x274.2), (⟨s239.2.id_, w64 (s239.2.score + x308)⟩ : know_Hit)))) L.length 0 (false, (⟨x218, 0⟩ : know_Hit))) fun o230 => o230.andThen (fun y => y.elim) fun s231 => Option.bind (if s231.1 = true then (Option.bind (slices_Contains_Lint_int sent x218) fun x320 => some (!x320)) else (some false)) fun s319 => Option.bind (if s319 = true then Option.bind (appendL 8796093022208 s193 ([s231.2] : List know_Hit)) fun x337 => some x337 else some s193) fun s322 => some s322) fun s209 => some (.nx s209)) x.ids.length (fun _ => False) (fun k s s' => s = s' ∧ s.length ≤ k) (s := []) (s' := []) ⟨rfl, Nat.le_refl _⟩ (by
    rintro k s _ hk ⟨rfl, hle⟩
    have hlen := hx.len
    have hid : x.ids[k]? = some x.ids[k] := List.getElem?_eq_getElem hk
    rw [idx_lt _ _ hk]
    generalize x.ids[k] = id at hid
    obtain ⟨f, v, h1, h2⟩ := hit_loop hx hs hp k id hid
    obtain ⟨b, hb⟩ := contains_some sent id
    simp only [Option.bind_some]
    rw [h1, h2]
    have hap : appendL 8796093022208 s ([(⟨id, v⟩ : know_Hit)] : List know_Hit) = some (s ++ [⟨id, v⟩]) := by
      unfold appendL
      rw [if_pos (by rw [List.length_singleton]; omega)]
    simp only [Option.bind_some, Lp.andThen_fin, hb, hap]
    cases f
    · exact Or.inr ⟨s, s, rfl, rfl, rfl, by omega⟩
    · cases b
      · exact Or.inr ⟨s ++ [⟨id, v⟩], s ++ [⟨id, v⟩], rfl, rfl, rfl, by rw [List.length_append, List.length_singleton]; omega⟩
      · exact Or.inr ⟨s, s, rfl, rfl, rfl, by omega⟩) with ⟨_, _, _, h⟩ | ⟨H, _, a1, a2, rfl, a3⟩
  · exact h.elim
  · exact ⟨H, a1, a2, Nat.le_trans a3 hx.len⟩

/-- the greater score ahead, then the smaller number -/
def hl_ (a b : know_Hit) : Prop := b.score < a.score ∨ a.score = b.score ∧ a.id_ < b.id_
theorem rank_val (a b : know_Hit) : ∃ v, know_ranked_1 a b = some v ∧ portref2_ranked_1 a b = some v ∧ (v < 0 ↔ hl_ a b) := by
  unfold know_ranked_1 portref2_ranked_1
  rw [or_two_ints, compare_ii, compare_ii, Option.bind_some]
  refine ⟨_, rfl, rfl, ?_⟩
  unfold hl_
  split <;> split <;> (try split) <;> omega
theorem ranked_eq (H : List know_Hit) (hl : H.length ≤ 200) (most : Int) (h0 : 0 ≤ most) : ∃ R, know_ranked H most = some R ∧ portref2_ranked H most = some R := by
  have hcmp : (fun y5 y6 => portref2_ranked_1 y5 y6) = (fun y5 y6 => know_ranked_1 y5 y6) := by
    funext a b
    obtain ⟨v, h1, h2, _⟩ := rank_val a b
    rw [h1, h2]
  have hlt : ∀ a b : know_Hit, cmpLt (fun y5 y6 => know_ranked_1 y5 y6) a b = true ↔ hl_ a b := fun a b => by
    obtain ⟨v, h1, _, h2⟩ := rank_val a b
    unfold cmpLt
    simp only [h1, decide_eq_true_eq]
    exact h2
  have hnl : ∀ a b : know_Hit, cmpLt (fun y5 y6 => know_ranked_1 y5 y6) a b = false ↔ ¬ hl_ a b := fun a b => by rw [← hlt, Bool.not_eq_true]
  have hok : SortOk (fun y5 y6 => know_ranked_1 y5 y6) H := by
    refine ⟨by omega, fun a _ b _ => ?_, fun a _ => ?_, fun a _ b _ c _ => ?_, fun a _ b _ c _ => ?_, fun a ha b hb => ?_⟩
    · obtain ⟨v, h1, _⟩ := rank_val a b
      exact ⟨v, h1⟩
    · rw [hnl]; unfold hl_; omega
    · rw [hlt, hlt, hlt]; unfold hl_; omega
    · rw [hnl, hnl, hnl]; unfold hl_; omega
    · rw [hnl, hnl]
      intro h1 h2
      unfold hl_ at h1 h2
      obtain ⟨i, s⟩ := a
      obtain ⟨j, u⟩ := b
      simp only at h1 h2
      obtain rfl : i = j := by omega
      obtain rfl : s = u := by omega
      rfl
  unfold know_ranked portref2_ranked
  rw [hcmp]
  unfold sortFuncL
  rw [if_pos hok]
  simp only [Option.bind_some]
  have hlm : (H.mergeSort fun a b => !(cmpLt (fun y5 y6 => know_ranked_1 y5 y6) b a)).length = H.length := List.length_mergeSort _
  generalize (H.mergeSort fun a b => !(cmpLt (fun y5 y6 => know_ranked_1 y5 y6) b a)) = G at hlm
  obtain ⟨m, hm⟩ : ∃ m : Nat, most = (m : Int) := ⟨most.toNat, by omega⟩
  subst hm
  have e1 : (if (G.length : Int) < (m : Int) then (G.length : Int) else (m : Int)) = ((min m G.length : Nat) : Int) := by split <;> omega
  have e2 : (if (m : Int) < (G.length : Int) then (m : Int) else (G.length : Int)) = ((min m G.length : Nat) : Int) := by split <;> omega
  rw [e1, e2, take_val _ _ (Nat.min_le_right _ _)]
  simp only [Option.bind_some]
  refine ⟨G.take (min m G.length), ?_, rfl⟩
  unfold slices_Clone_Lknow_Hit_know_Hit appendL
  rw [if_pos (by simp; omega)]
  rfl

theorem suggest_eq (x : know_Index) (hs : Small x) (text : ByteArray) (sent : List Int) (most : Int) : ∃ r, know_Suggest x text sent most = some r ∧ portref2_SuggestOf x text sent most = some r := by
  obtain ⟨c, c1, c2, c3⟩ := index_eq x hs
  unfold know_Suggest portref2_SuggestOf
  rw [c1, c2, Option.bind_some, Option.bind_some]
  cases h0 : (c != 0) with
  | true => exact ⟨_, rfl, rfl⟩
  | false =>
  have hx := c3 (by simpa using h0)
  simp only [Bool.false_eq_true, if_false]
  cases h1 : ((decide ((20000 : Int) < (text.size : Int))) || (decide ((200 : Int) < (sent.length : Int)))) with
  | true => exact ⟨_, rfl, rfl⟩
  | false =>
  simp only [Bool.false_eq_true, if_false]
  have e1 : (!(know_within most 0 100)) = ((decide (most < 0)) || (decide ((100 : Int) < most))) := by
    rw [Bool.eq_iff_iff]; simp [know_within] <;> omega
  rw [e1]
  cases h2 : ((decide (most < 0)) || (decide ((100 : Int) < most))) with
  | true => exact ⟨_, rfl, rfl⟩
  | false =>
  simp only [Bool.false_eq_true, if_false]
  have hts : text.size ≤ 20000 := by simp at h1; omega
  have hm0 : 0 ≤ most := by simp at h2; omega
  rw [know_Words_val _ (by omega), portref2_WordsOf_val _ (by omega), Option.bind_some, Option.bind_some]
  have hwl : (wordsL text.data.toList).length ≤ 20000 := by
    have := wordsF_length text.data.toList.length text.data.toList
    rw [data_size] at this
    unfold wordsL
    rw [data_size]
    omega
  obtain ⟨L, m, l1, l2, l3, l4⟩ := named_eq hx hs (wordsL text.data.toList) (wordsF_size _ _) (by omega)
  unfold know_Index_named
  rw [if_neg (show ¬ (((1 : Int) == 2) = true) by decide)]
  simp only
  rw [l1, l2]
  simp only [Option.bind_some, Lp.andThen_fin]
  obtain ⟨L', s1, s2, s3, s4⟩ := sort_terms hx l3 (by omega)
  rw [s1, s2, Option.bind_some, Option.bind_some]
  have f1 : (if (L'.length : Int) < 20 then (L'.length : Int) else 20) = ((min 20 L'.length : Nat) : Int) := by split <;> omega
  have f2 : (if 20 < (L'.length : Int) then 20 else (L'.length : Int)) = ((min 20 L'.length : Nat) : Int) := by split <;> omega
  rw [f1, f2, take_val _ _ (Nat.min_le_right _ _), Option.bind_some, Option.bind_some]
  obtain ⟨H, g1, g2, g3⟩ := hits_eq hx hs (L := L'.take (min 20 L'.length)) ⟨fun t ht => s3.mem t (List.mem_of_mem_take ht)⟩ sent
  rw [g1, g2]
  simp only [Option.bind_some, Lp.andThen_fin]
  obtain ⟨R, r1, r2⟩ := ranked_eq H g3 most hm0
  rw [r1, r2]
  exact ⟨_, rfl, rfl⟩

theorem equal_hits (l : List know_Hit) : slices_Equal_Lknow_Hit_know_Hit l l = some true := by
  unfold slices_Equal_Lknow_Hit_know_Hit
  simp only [bne_self_eq_false, Bool.false_eq_true, if_false]
  obtain ⟨t, h, _⟩ := rangeB_inv (R := Bool) (b := fun k9 (_ : Unit) => Option.bind (idx l (k9 : Int)) fun x29 => Option.bind (idx l (k9 : Int)) fun x34 => if (!(x29.id_ == x34.id_ && (x29.score == x34.score))) = true then some (.rt false) else some (.nx ())) l.length (fun _ _ => True) (s := ()) trivial
    (fun k s hk _ => by rw [idx_lt _ _ hk]; simp)
  rw [h]
  rfl

theorem sum_mem {α : Type} (f : α → Nat) : ∀ (l : List α), ∀ x ∈ l, f x ≤ (l.map f).sum
  | y :: l, x, h => by
    rw [List.map_cons, List.sum_cons]
    rcases List.mem_cons.1 h with rfl | h
    · omega
    · have := sum_mem f l x h; omega
theorem sum_len {α : Type} (f : α → Nat) (hf : ∀ x, 1 ≤ f x) : ∀ l : List α, l.length ≤ (l.map f).sum
  | [] => Nat.zero_le _
  | y :: l => by
    rw [List.map_cons, List.sum_cons, List.length_cons]
    have := sum_len f hf l
    have := hf y
    omega
def bpost (p : know_Posting) : Nat := 1 + (((p.title.map fun _ => 1).sum + 1) + ((p.body.map fun _ => 1).sum + 1))
def bterm (t : know_Term) : Nat := (t.word.size + 1) + ((t.list_.map bpost).sum + 1)
def bindex (x : know_Index) : Nat := ((x.ids.map fun _ => 1).sum + 1) + (((x.sizes.map fun _ => 1).sum + 1) + ((x.terms.map bterm).sum + 1))
theorem small_of (x : know_Index) (h : bindex x ≤ 1048576) : Small x := by
  unfold bindex at h
  have hp : ∀ p, 1 ≤ bpost p := fun p => by unfold bpost; omega
  have ht : ∀ t, 1 ≤ bterm t := fun t => by unfold bterm; omega
  have h1 := sum_len bterm ht x.terms
  have h2 : ∀ t ∈ x.terms, bterm t ≤ 1048576 := fun t htm => by have := sum_mem bterm x.terms t htm; omega
  refine ⟨by omega, fun t htm => ?_, fun t htm => ?_, fun t htm p hpm => ?_⟩
  · have := h2 t htm
    unfold bterm at this
    omega
  · have := h2 t htm
    have h3 := sum_len bpost hp t.list_
    unfold bterm at this
    omega
  · have := h2 t htm
    have h3 := sum_mem bpost t.list_ p hpm
    unfold bterm at this
    have h4 := sum_len (fun _ : Int => 1) (fun _ => Nat.le_refl _) p.title
    have h5 := sum_len (fun _ : Int => 1) (fun _ => Nat.le_refl _) p.body
    have h6 : bpost p = 1 + (((p.title.map fun _ => 1).sum + 1) + ((p.body.map fun _ => 1).sum + 1)) := rfl
    rw [h6] at h3
    omega
theorem suggests_true (x : know_Index) (text : ByteArray) (sent : List Int) (most : Int) (b1 b2 b3 : Nat) (hb : bindex x + b1 + b2 + b3 ≤ 1048576) : portlaw2_KnowSuggests x text sent most = some true := by
  obtain ⟨r, r1, r2⟩ := suggest_eq x (small_of x (by omega)) text sent most
  unfold portlaw2_KnowSuggests
  rw [r1, r2]
  simp only [Option.bind_some, beq_self_eq_true, if_true, equal_hits]
end Go.Proofs.YtdfohednlmnciaaGreatDoor.M
