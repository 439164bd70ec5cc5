/-
  Scores and ranks of hits; the sizes of an index: plain part.
-/
import Derived.Test.YtkjlbaacbkdnfaaGreatDoorKnowSearchesKnwCheck
import Derived.Test.YtkjlbaacbkdnfaaGreatDoorKnowSearchesKnwFind
import Derived.Test.YtkjlbaacbkdnfaaGreatDoorKnowSearchesKnwStem
namespace Go.Proofs.YtkjlbaacbkdnfaaGreatDoor.M
open Go Go.Pu
set_option linter.unusedSimpArgs false
set_option linter.unusedVariables false

theorem mapGet_put2 {κ α : Type} [DecidableEq κ] (l : List (κ × α)) (k k' : κ) (v : α) : mapGet (mapPut l k v) k' = if k = k' then some v else mapGet l k' := by
  unfold mapPut
  by_cases h : ∃ p ∈ l, p.1 = k
  · rw [if_pos h]
    induction l with
    | nil => obtain ⟨p, hp, _⟩ := h; simp at hp
    | cons p l ih =>
      rw [List.map_cons, mapGet, mapGet]
      by_cases hp : p.1 = k
      · rw [if_pos hp]
        by_cases hk : k = k'
        · rw [if_pos hk, if_pos hk]
        · rw [if_neg hk, if_neg hk, if_neg (by rw [hp]; exact hk)]
          by_cases h2 : ∃ p ∈ l, p.1 = k
          · rw [ih h2, if_neg hk]
          · have : l.map (fun q => if q.1 = k then (k, v) else q) = l := by
              conv => rhs; rw [← List.map_id l]
              apply List.map_congr_left
              intro q hq
              rw [if_neg (fun e => h2 ⟨q, hq, e⟩)]
              rfl
            rw [this]
      · rw [if_neg hp]
        have h2 : ∃ p ∈ l, p.1 = k := by
          obtain ⟨q, hq, e⟩ := h
          rcases List.mem_cons.1 hq with rfl | hq
          · exact absurd e hp
          · exact ⟨q, hq, e⟩
        by_cases hp' : p.1 = k'
        · rw [if_pos hp', if_pos hp', if_neg (fun e => hp (hp'.trans e.symm))]
        · rw [if_neg hp', if_neg hp', ih h2]
  · rw [if_neg h]
    induction l with
    | nil => simp [mapGet]
    | cons p l ih =>
      have hp : p.1 ≠ k := fun e => h ⟨p, by simp, e⟩
      have h2 : ¬ ∃ p ∈ l, p.1 = k := fun ⟨q, hq, e⟩ => h ⟨q, by simp [hq], e⟩
      rw [List.cons_append, mapGet, mapGet, ih h2]
      by_cases hp' : p.1 = k'
      · rw [if_pos hp', if_pos hp', if_neg (fun e => hp (hp'.trans e.symm))]
      · rw [if_neg hp', if_neg hp']
theorem rangeB_sim' {S S' R R' : Type} {b : Nat → S → Option (Ctl S R)} {b' : Nat → S' → Option (Ctl S' R')} (n : Nat) (I : Nat → S → S' → Prop) {s : S} {s' : S'} (h0 : I 0 s s')
    (round : ∀ k s s', k < n → I k s s' → ∃ t t', b k s = some (.nx t) ∧ b' k s' = some (.nx t') ∧ I (k + 1) t t') : ∃ t t', rangeB b n 0 s = some (.fin t) ∧ rangeB b' n 0 s' = some (.fin t') ∧ I n t t' := by
  have key : ∀ m k s s', k + m = n → I k s s' → ∃ t t', rangeB b m k s = some (.fin t) ∧ rangeB b' m k s' = some (.fin t') ∧ I n t t' := by
    intro m
    induction m with
    | zero =>
      intro k s s' hk hI
      obtain rfl : k = n := by omega
      exact ⟨s, s', rfl, rfl, hI⟩
    | succ m ih =>
      intro k s s' hk hI
      obtain ⟨t, t', h1, h2, hI'⟩ := round k s s' (by omega) hI
      rw [rangeB, rangeB, h1, h2]
      exact ih (k + 1) t t' (by omega) hI'
  exact key n 0 s s' (by omega) h0
theorem wordsF_size : ∀ (n : Nat) (l : List UInt8), ∀ w ∈ wordsF n l, w.size ≤ 30
  | 0, l => by simp [wordsF]
  | n + 1, l => by
    rw [wordsF]
    by_cases hl : l = []
    · rw [if_pos hl]; simp
    · rw [if_neg hl]
      intro w hw
      rcases List.mem_append.1 hw with h | h
      · unfold headW at h
        split at h
        · rename_i h2
          rw [List.mem_singleton] at h
          subst h
          show ((l.takeWhile wb).map low8).toArray.size ≤ 30
          simpa using h2.2
        · cases h
      · exact wordsF_size n _ w h
/-- terms of words, each once -/
structure Picked (x : know_Index) (L : List know_Term) : Prop where
  mem : ∀ t ∈ L, t ∈ x.terms
theorem same_word {x : know_Index} (hx : IndexOk x) {t u : know_Term} (ht : t ∈ x.terms) (hu : u ∈ x.terms) (h : t.word = u.word) : t = u := by
  obtain ⟨i, hi⟩ := List.mem_iff_getElem?.1 ht
  obtain ⟨j, hj⟩ := List.mem_iff_getElem?.1 hu
  rcases Nat.lt_trichotomy i j with h1 | h1 | h1
  · have := hx.words i j t u h1 hi hj
    rw [h, cmpS_self] at this
    cases this
  · subst h1; rw [hi] at hj; exact Option.some.inj hj
  · have := hx.words j i u t h1 hj hi
    rw [h, cmpS_self] at this
    cases this
theorem or_two_ints (a b : Int) : cmp_Or_int [a, b] = some (if a ≠ 0 then a else b) := by
  by_cases ha : a = 0
  · by_cases hb : b = 0 <;> simp [cmp_Or_int, ha, hb, rangeB, idx, Lp.andThen]
  · simp [cmp_Or_int, ha, rangeB, idx, Lp.andThen]
theorem take_val {α : Type} (l : List α) (m : Nat) (h : m ≤ l.length) : sliceL l none (some (m : Int)) = some (l.take m) := by
  unfold sliceL bounds
  simp only [Option.getD_some, Option.getD_none]
  rw [if_pos (by omega)]
  simp
theorem bits_some (n : Int) : ∃ v, math_bits_Len n = some v := by
  unfold math_bits_Len math_bits_Len64
  have hsh : ∀ (x : Int) (c : Int), 0 ≤ c → ∃ y, shr .u64 x c = some y := fun x c hc => by
    unfold shr
    rw [if_neg (by omega)]
    exact ⟨_, rfl⟩
  obtain ⟨a, ha⟩ := hsh n 32 (by decide)
  have hidx : ∀ b : UInt8, ∃ y, idxS (⟨#[0, 1, 2, 2, 3, 3, 3, 3, 4, 4, 4, 4, 4, 4, 4, 4, 5, 5, 5, 5, 5, 5, 5, 5, 5, 5, 5, 5, 5, 5, 5, 5, 6, 6, 6, 6, 6, 6, 6, 6, 6, 6, 6, 6, 6, 6, 6, 6, 6, 6, 6, 6, 6, 6, 6, 6, 6, 6, 6, 6, 6, 6, 6, 6, 7, 7, 7, 7, 7, 7, 7, 7, 7, 7, 7, 7, 7, 7, 7, 7, 7, 7, 7, 7, 7, 7, 7, 7, 7, 7, 7, 7, 7, 7, 7, 7, 7, 7, 7, 7, 7, 7, 7, 7, 7, 7, 7, 7, 7, 7, 7, 7, 7, 7, 7, 7, 7, 7, 7, 7, 7, 7, 7, 7, 7, 7, 7, 7, 8, 8, 8, 8, 8, 8, 8, 8, 8, 8, 8, 8, 8, 8, 8, 8, 8, 8, 8, 8, 8, 8, 8, 8, 8, 8, 8, 8, 8, 8, 8, 8, 8, 8, 8, 8, 8, 8, 8, 8, 8, 8, 8, 8, 8, 8, 8, 8, 8, 8, 8, 8, 8, 8, 8, 8, 8, 8, 8, 8, 8, 8, 8, 8, 8, 8, 8, 8, 8, 8, 8, 8, 8, 8, 8, 8, 8, 8, 8, 8, 8, 8, 8, 8, 8, 8, 8, 8, 8, 8, 8, 8, 8, 8, 8, 8, 8, 8, 8, 8, 8, 8, 8, 8, 8, 8, 8, 8, 8, 8, 8, 8, 8, 8, 8, 8, 8, 8, 8, 8, 8, 8, 8, 8, 8, 8, 8, 8]⟩ : ByteArray) ((b.toNat : Nat) : Int) = some y := fun b => by
    have hb := b.toNat_lt
    rw [idxS_list]
    have hl : (⟨#[0, 1, 2, 2, 3, 3, 3, 3, 4, 4, 4, 4, 4, 4, 4, 4, 5, 5, 5, 5, 5, 5, 5, 5, 5, 5, 5, 5, 5, 5, 5, 5, 6, 6, 6, 6, 6, 6, 6, 6, 6, 6, 6, 6, 6, 6, 6, 6, 6, 6, 6, 6, 6, 6, 6, 6, 6, 6, 6, 6, 6, 6, 6, 6, 7, 7, 7, 7, 7, 7, 7, 7, 7, 7, 7, 7, 7, 7, 7, 7, 7, 7, 7, 7, 7, 7, 7, 7, 7, 7, 7, 7, 7, 7, 7, 7, 7, 7, 7, 7, 7, 7, 7, 7, 7, 7, 7, 7, 7, 7, 7, 7, 7, 7, 7, 7, 7, 7, 7, 7, 7, 7, 7, 7, 7, 7, 7, 7, 8, 8, 8, 8, 8, 8, 8, 8, 8, 8, 8, 8, 8, 8, 8, 8, 8, 8, 8, 8, 8, 8, 8, 8, 8, 8, 8, 8, 8, 8, 8, 8, 8, 8, 8, 8, 8, 8, 8, 8, 8, 8, 8, 8, 8, 8, 8, 8, 8, 8, 8, 8, 8, 8, 8, 8, 8, 8, 8, 8, 8, 8, 8, 8, 8, 8, 8, 8, 8, 8, 8, 8, 8, 8, 8, 8, 8, 8, 8, 8, 8, 8, 8, 8, 8, 8, 8, 8, 8, 8, 8, 8, 8, 8, 8, 8, 8, 8, 8, 8, 8, 8, 8, 8, 8, 8, 8, 8, 8, 8, 8, 8, 8, 8, 8, 8, 8, 8, 8, 8, 8, 8, 8, 8, 8, 8, 8, 8]⟩ : ByteArray).data.toList.length = 256 := by decide +kernel
    exact ⟨_, List.getElem?_eq_getElem (by rw [hl]; exact hb)⟩
  have step : ∀ (c : Bool) (x y : Int) (k : Int) (hk : 0 ≤ k) (z : Int), ∃ p : Int × Int, (if c = true then Option.bind (shr .u64 x k) fun x8 => some (x8, z) else some (x, y)) = some p := fun c x y k hk z => by
    obtain ⟨u, hu⟩ := hsh x k hk
    cases c
    · exact ⟨_, rfl⟩
    · rw [hu]; exact ⟨_, rfl⟩
  obtain ⟨p1, h1⟩ := step (decide ((4294967296 : Int) ≤ n)) n 0 32 (by decide) 32
  rw [h1, Option.bind_some]
  obtain ⟨p2, h2⟩ := step (decide ((65536 : Int) ≤ p1.1)) p1.1 p1.2 16 (by decide) (w64 (p1.2 + 16))
  rw [h2, Option.bind_some]
  obtain ⟨p3, h3⟩ := step (decide ((256 : Int) ≤ p2.1)) p2.1 p2.2 8 (by decide) (w64 (p2.2 + 8))
  rw [h3, Option.bind_some]
  obtain ⟨y, hy⟩ := hidx (toU8 p3.1)
  rw [hy]
  exact ⟨_, rfl⟩
theorem score_eq {x : know_Index} (hx : IndexOk x) (hs : Small x) {t : know_Term} (ht : t ∈ x.terms) (k : Nat) (id : Int) (hk : x.ids[k]? = some id) :
    ∃ v, know_Index_score x t (k : Int) = some v ∧ portref2_termScore x t id = some v := by
  unfold know_Index_score portref2_termScore
  obtain ⟨r, r1, r2, r3, _⟩ := find_post (hx.terms t ht).rise (hs.list t ht) id
  rw [idx_nat, hk, Option.bind_some, r1, r2, Option.bind_some, Option.bind_some]
  cases hr : r.2 with
  | false => exact ⟨0, rfl, rfl⟩
  | true =>
    simp only [Bool.not_true, Bool.false_eq_true, if_false]
    have hne := (hx.terms t ht).ne
    have hpos : 0 < t.list_.length := List.length_pos_iff.2 hne
    have hq : quo (x.ids.length : Int) (t.list_.length : Int) = some (w64 ((x.ids.length : Int).tdiv (t.list_.length : Int))) := by
      unfold quo
      rw [if_neg (by omega)]
    obtain ⟨b, hb⟩ := bits_some (IntKind.wrap .u64 (w64 ((x.ids.length : Int).tdiv (t.list_.length : Int))))
    have hkl : k < x.ids.length := (List.getElem?_eq_some_iff.1 hk).1
    have hsl : k < x.sizes.length := by have := hx.sizes; omega
    have hz := hx.size _ (List.getElem_mem hsl)
    obtain ⟨a, _, b2, _⟩ := bsearch_val (l := x.ids) (by have := hx.len; omega) hx.rise id
    obtain ⟨c1, c2⟩ := b2 (List.mem_of_getElem? hk)
    have hak : a = k := by
      rcases Nat.lt_trichotomy a k with h | h | h
      · have := hx.rise a k id id h c1 hk; omega
      · exact h
      · have := hx.rise k a id id h hk c1; omega
    subst hak
    simp only [hq, Option.bind_some, hb, c2, idx_lt _ _ hsl]
    generalize x.sizes[a] = z at hz
    have hq2 : ∀ n : Int, ∃ v, quo n (w64 (z + 20)) = some v := fun n => by
      unfold quo
      rw [w64_id (by omega) (by omega), if_neg (by omega)]
      exact ⟨_, rfl⟩
    obtain ⟨v, hv⟩ := hq2 (w64 ((w64 ((w64 ((w64 (5 * (r.1.title.length : Int))) + (r.1.body.length : Int))) * 1000)) * b))
    rw [hv]
    exact ⟨v, rfl, rfl⟩
/-- the greater score ahead, then the smaller number -/
def hl_ (a b : know_Hit) : Prop := b.score < a.score ∨ a.score = b.score ∧ a.id_ < b.id_
theorem rank_val (a b : know_Hit) : ∃ v, know_ranked_1 a b = some v ∧ portref2_ranked_1 a b = some v ∧ (v < 0 ↔ hl_ a b) := by
  unfold know_ranked_1 portref2_ranked_1
  rw [or_two_ints, compare_ii, compare_ii, Option.bind_some]
  refine ⟨_, rfl, rfl, ?_⟩
  unfold hl_
  split <;> split <;> (try split) <;> omega
theorem ranked_eq (H : List know_Hit) (hl : H.length ≤ 200) (most : Int) (h0 : 0 ≤ most) : ∃ R, know_ranked H most = some R ∧ portref2_ranked H most = some R := by
  have hcmp : (fun y5 y6 => portref2_ranked_1 y5 y6) = (fun y5 y6 => know_ranked_1 y5 y6) := by
    funext a b
    obtain ⟨v, h1, h2, _⟩ := rank_val a b
    rw [h1, h2]
  have hlt : ∀ a b : know_Hit, cmpLt (fun y5 y6 => know_ranked_1 y5 y6) a b = true ↔ hl_ a b := fun a b => by
    obtain ⟨v, h1, _, h2⟩ := rank_val a b
    unfold cmpLt
    simp only [h1, decide_eq_true_eq]
    exact h2
  have hnl : ∀ a b : know_Hit, cmpLt (fun y5 y6 => know_ranked_1 y5 y6) a b = false ↔ ¬ hl_ a b := fun a b => by rw [← hlt, Bool.not_eq_true]
  have hok : SortOk (fun y5 y6 => know_ranked_1 y5 y6) H := by
    refine ⟨by omega, fun a _ b _ => ?_, fun a _ => ?_, fun a _ b _ c _ => ?_, fun a _ b _ c _ => ?_, fun a ha b hb => ?_⟩
    · obtain ⟨v, h1, _⟩ := rank_val a b
      exact ⟨v, h1⟩
    · rw [hnl]; unfold hl_; omega
    · rw [hlt, hlt, hlt]; unfold hl_; omega
    · rw [hnl, hnl, hnl]; unfold hl_; omega
    · rw [hnl, hnl]
      intro h1 h2
      unfold hl_ at h1 h2
      obtain ⟨i, s⟩ := a
      obtain ⟨j, u⟩ := b
      simp only at h1 h2
      obtain rfl : i = j := by omega
      obtain rfl : s = u := by omega
      rfl
  unfold know_ranked portref2_ranked
  rw [hcmp]
  unfold sortFuncL
  rw [if_pos hok]
  simp only [Option.bind_some]
  have hlm : (H.mergeSort fun a b => !(cmpLt (fun y5 y6 => know_ranked_1 y5 y6) b a)).length = H.length := List.length_mergeSort _
  generalize (H.mergeSort fun a b => !(cmpLt (fun y5 y6 => know_ranked_1 y5 y6) b a)) = G at hlm
  obtain ⟨m, hm⟩ : ∃ m : Nat, most = (m : Int) := ⟨most.toNat, by omega⟩
  subst hm
  have e1 : (if (G.length : Int) < (m : Int) then (G.length : Int) else (m : Int)) = ((min m G.length : Nat) : Int) := by split <;> omega
  have e2 : (if (m : Int) < (G.length : Int) then (m : Int) else (G.length : Int)) = ((min m G.length : Nat) : Int) := by split <;> omega
  rw [e1, e2, take_val _ _ (Nat.min_le_right _ _)]
  simp only [Option.bind_some]
  refine ⟨G.take (min m G.length), ?_, rfl⟩
  unfold slices_Clone_Lknow_Hit_know_Hit appendL
  rw [if_pos (by simp; omega)]
  rfl
theorem equal_hits (l : List know_Hit) : slices_Equal_Lknow_Hit_know_Hit l l = some true := by
  unfold slices_Equal_Lknow_Hit_know_Hit
  simp only [bne_self_eq_false, Bool.false_eq_true, if_false]
  obtain ⟨t, h, _⟩ := rangeB_inv (R := Bool) (b := fun k9 (_ : Unit) => Option.bind (idx l (k9 : Int)) fun x29 => Option.bind (idx l (k9 : Int)) fun x34 => if (!(x29.id_ == x34.id_ && (x29.score == x34.score))) = true then some (.rt false) else some (.nx ())) l.length (fun _ _ => True) (s := ()) trivial
    (fun k s hk _ => by rw [idx_lt _ _ hk]; simp)
  rw [h]
  rfl
theorem sum_mem {α : Type} (f : α → Nat) : ∀ (l : List α), ∀ x ∈ l, f x ≤ (l.map f).sum
  | y :: l, x, h => by
    rw [List.map_cons, List.sum_cons]
    rcases List.mem_cons.1 h with rfl | h
    · omega
    · have := sum_mem f l x h; omega
theorem sum_len {α : Type} (f : α → Nat) (hf : ∀ x, 1 ≤ f x) : ∀ l : List α, l.length ≤ (l.map f).sum
  | [] => Nat.zero_le _
  | y :: l => by
    rw [List.map_cons, List.sum_cons, List.length_cons]
    have := sum_len f hf l
    have := hf y
    omega
def bpost (p : know_Posting) : Nat := 1 + (((p.title.map fun _ => 1).sum + 1) + ((p.body.map fun _ => 1).sum + 1))
def bterm (t : know_Term) : Nat := (t.word.size + 1) + ((t.list_.map bpost).sum + 1)
def bindex (x : know_Index) : Nat := ((x.ids.map fun _ => 1).sum + 1) + (((x.sizes.map fun _ => 1).sum + 1) + ((x.terms.map bterm).sum + 1))
theorem small_of (x : know_Index) (h : bindex x ≤ 1048576) : Small x := by
  unfold bindex at h
  have hp : ∀ p, 1 ≤ bpost p := fun p => by unfold bpost; omega
  have ht : ∀ t, 1 ≤ bterm t := fun t => by unfold bterm; omega
  have h1 := sum_len bterm ht x.terms
  have h2 : ∀ t ∈ x.terms, bterm t ≤ 1048576 := fun t htm => by have := sum_mem bterm x.terms t htm; omega
  refine ⟨by omega, fun t htm => ?_, fun t htm => ?_, fun t htm p hpm => ?_⟩
  · have := h2 t htm
    unfold bterm at this
    omega
  · have := h2 t htm
    have h3 := sum_len bpost hp t.list_
    unfold bterm at this
    omega
  · have := h2 t htm
    have h3 := sum_mem bpost t.list_ p hpm
    unfold bterm at this
    have h4 := sum_len (fun _ : Int => 1) (fun _ => Nat.le_refl _) p.title
    have h5 := sum_len (fun _ : Int => 1) (fun _ => Nat.le_refl _) p.body
    have h6 : bpost p = 1 + (((p.title.map fun _ => 1).sum + 1) + ((p.body.map fun _ => 1).sum + 1)) := rfl
    rw [h6] at h3
    omega
end Go.Proofs.YtkjlbaacbkdnfaaGreatDoor.M
