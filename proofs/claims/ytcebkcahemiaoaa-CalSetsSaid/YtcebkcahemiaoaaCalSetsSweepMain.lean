/-
  swept and merged make the same spans: plain part.
-/
import Derived.Test.YtcebkcahemiaoaaCalSetsSweepEq
namespace Go.Proofs.Ytcebkcahemiaoaa.M
open Go Go.Pu
set_option linter.unusedSimpArgs false
set_option linter.unusedVariables false

theorem uniqA_len (l : List Int) : ∀ p, (uniqA p l).length ≤ l.length := by
  induction l with
  | nil => intro p; simp [uniqA]
  | cons a l ih =>
    intro p
    rw [uniqA]
    have h1 := ih p
    have h2 := ih (some a)
    split <;> simp only [List.length_cons] <;> omega
theorem swept_merged (lists : List (List cal_Span)) (wanted : List Int → Option Bool) (holds : Int → Option Bool) (H : Int → Bool) (hn : lists.length ≤ 1000000) (hlen : (pointsL lists).length ≤ 1000000000)
    (hl : ∀ l ∈ lists, ∀ s ∈ l, s.from_ < s.to_) (hw : ∀ a, wanted (countsAt lists a) = some (H a)) (hh : ∀ a, holds a = some (H a)) : ∃ r, cal_swept lists wanted = some r ∧ portref2_merged holds lists = some r := by
  have h1 := rangeB_flat (R := List cal_Span) lists (fun k x => flatK (fun _ s => ends2 k s) 0 x) 5864062014805 (fun k6 s14 => Option.bind (Option.bind (idx lists (k6 : Int)) fun x39 => Option.bind (rangeB (R := Empty) (fun k49 s57 => Option.bind (idx x39 (k49 : Int)) fun x72 => Option.bind (appendL 5864062014805 s57 ([(⟨x72.from_, (k6 : Int), 1⟩ : cal_edge), (⟨x72.to_, (k6 : Int), (-1)⟩ : cal_edge)] : List cal_edge)) fun x94 => some (.nx x94)) x39.length 0 s14) fun o46 => o46.andThen (fun y => y.elim) fun s47 => some s47) fun s30 => some (.nx s30))
    (fun k x s hx hs => by
      simp only [idx_nat, hx, Option.bind_some]
      rw [rangeB_flat (R := Empty) x (fun _ s => ends2 k s) 5864062014805 _ (fun j y t hy ht => by
        rw [hy, Option.bind_some, appendL, if_pos (by simpa [ends2] using ht)]
        rfl) s hs]
      rfl) [] (by have := edges_len lists; unfold edgesL at this; rw [this]; simp; omega)
  have h2 := rangeB_flat (R := List cal_Span) lists (fun _ x => flatK (fun _ (s : cal_Span) => [s.from_, s.to_]) 0 x) 17592186044416 (fun k6 s14 => Option.bind (Option.bind (idx lists (k6 : Int)) fun x39 => Option.bind (rangeB (R := Empty) (fun k49 s57 => Option.bind (idx x39 (k49 : Int)) fun x72 => Option.bind (appendL 17592186044416 s57 ([x72.from_, x72.to_] : List Int)) fun x92 => some (.nx x92)) x39.length 0 s14) fun o46 => o46.andThen (fun y => y.elim) fun s47 => some s47) fun s30 => some (.nx s30))
    (fun k x s hx hs => by
      simp only [idx_nat, hx, Option.bind_some]
      rw [rangeB_flat (R := Empty) x (fun _ (s : cal_Span) => [s.from_, s.to_]) 17592186044416 _ (fun j y t hy ht => by
        rw [hy, Option.bind_some, appendL, if_pos (by simpa using ht)]
        rfl) s hs]
      rfl) [] (by unfold pointsL at hlen; simp; omega)
  rw [List.nil_append] at h1 h2
  change _ = some (Lp.fin (edgesL lists)) at h1
  change _ = some (Lp.fin (pointsL lists)) at h2
  unfold cal_swept portref2_merged
  rw [h1, h2, Option.bind_some, Lp.andThen_fin, Option.bind_some, Lp.andThen_fin]
  have hel := edges_len lists
  rw [sortFuncP, if_pos ⟨by omega, swept_swo⟩, Option.bind_some, sortIntsL, if_pos (by omega), Option.bind_some]
  obtain ⟨hp, hs⟩ := pdqL_spec (cmp := fun y1 y2 => (cal_swept_1 y1 y2).getD 0) swept_swo (edgesL lists)
  generalize pdqL (fun y1 y2 => (cal_swept_1 y1 y2).getD 0) (edgesL lists) = E at hp hs
  have hse : (pointsL lists).mergeSort (fun x y => decide (x ≤ y)) = E.map (·.at_) := by
    apply sorted_unique
    · refine (List.mergeSort_perm _ _).trans ?_
      rw [← edges_at]
      exact (hp.map _).symm
    · have := List.pairwise_mergeSort (le := fun x y : Int => decide (x ≤ y)) (by intro a b c; simp; omega) (by intro a b; simp; omega) (pointsL lists)
      simpa using this
    · rw [List.pairwise_map]
      exact hs.imp fun {x y} h => by rw [swept_lt] at h; omega
  have hpl := hp.length_eq
  rw [hse, compactIntsL, if_pos (by rw [List.length_map]; omega), Option.bind_some, compact_uniq]
  rw [makeL, if_pos ⟨by omega, by omega⟩, Option.bind_some, Int.toNat_natCast]
  obtain ⟨c, q, hv⟩ := sweep_val lists wanted H hl hw E hp (by
    intro s t x y hst hx hy
    rcases Nat.lt_or_ge s t with h | h
    · have h3 := List.pairwise_iff_getElem.1 hs s t (List.getElem?_eq_some_iff.1 hx).1 (List.getElem?_eq_some_iff.1 hy).1 h
      rw [(List.getElem?_eq_some_iff.1 hx).2, (List.getElem?_eq_some_iff.1 hy).2, swept_lt] at h3
      omega
    · obtain rfl : s = t := by omega
      rw [hx] at hy
      cases hy
      exact Int.le_refl _) (by omega)
  rw [hv, Option.bind_some, Lp.andThen_fin]
  have hul := uniqA_len (E.map (·.at_)) none
  rw [List.length_map] at hul
  obtain ⟨q2, hv2⟩ := cuts_val holds H hh (uniqA none (E.map (·.at_))) (by omega)
  rw [hv2, Option.bind_some, Lp.andThen_fin]
  exact ⟨_, rfl, rfl⟩
end Go.Proofs.Ytcebkcahemiaoaa.M
