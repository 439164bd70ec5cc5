/-
  The document's question whether all can have a place: it answers for what there is a way.
-/
import Derived.Test.YtgmenjhmnjhgoaaDoorRouteMatchesMatPlace
namespace Go.Proofs.YtgmenjhmnjhgoaaDoor.M
open Go Go.Pu
set_option linter.unusedSimpArgs false
set_option linter.unusedVariables false

theorem sum_mem {m : Nat} : ∀ (r : List Int), r.Nodup → (∀ x ∈ r, ∃ k, k < m ∧ x = (k : Int)) → sumN m (fun k => if (k : Int) ∈ r then 1 else 0) = r.length := by
  intro r
  induction r with
  | nil =>
    intro _ _
    rw [sumN_congr (g := fun _ => 0) fun k _ => by simp]
    exact sumN_zero
  | cons x r ih =>
    intro hn hm
    obtain ⟨j, hj, rfl⟩ := hm x (by simp)
    obtain ⟨h1, h2⟩ := List.nodup_cons.1 hn
    have e : sumN m (fun k => if (k : Int) ∈ (j : Int) :: r then 1 else 0) = sumN m (fun k => (if k = j then 1 else 0) + if (k : Int) ∈ r then 1 else 0) := sumN_congr fun k _ => by
      by_cases ek : k = j
      · subst ek
        rw [if_pos (by simp), if_pos rfl, if_neg h1]
      · have : ¬ (k : Int) = (j : Int) := by omega
        simp [this, ek]
    rw [e, sumN_add, ih h2 (fun x hx => hm x (by simp [hx])), sumN_one (c := 1) hj (fun i _ hi => if_neg hi) (if_pos rfl)]
    simp
    omega

open Classical in
/-- who has what, the rows and what is fixed together -/
theorem rows_fun {n m : Nat} {has : List (List Int)} {fx : List Int} (hl : has.length = n) (hn : has.flatten.Nodup) (hm : ∀ x ∈ has.flatten, ∃ k, k < m ∧ x = (k : Int) ∧ lz fx k = -1) :
    ∃ a : Nat → Int, (∀ k, k < m → 0 ≤ lz fx k → a k = lz fx k) ∧ (∀ k, k < m → lz fx k < 0 → a k = -1 ∨ ∃ (p : Nat) (r : List Int), p < n ∧ has[p]? = some r ∧ (k : Int) ∈ r ∧ a k = (p : Int)) ∧ (∀ k, k < m → ∀ (p : Nat) (r : List Int), has[p]? = some r → (k : Int) ∈ r → a k = (p : Int)) ∧
      ∀ (p : Nat) (r : List Int), has[p]? = some r → cnt m a p = cnt m (lz fx) p + r.length := by
  obtain ⟨hn1, hn2⟩ := List.pairwise_flatten.1 hn
  have uniq : ∀ (p : Nat) (r : List Int) (p' : Nat) (r' : List Int) (x : Int), has[p]? = some r → has[p']? = some r' → x ∈ r → x ∈ r' → p = p' := by
    intro p r p' r' x h1 h2 h3 h4
    obtain ⟨q1, e1⟩ := List.getElem?_eq_some_iff.1 h1
    obtain ⟨q2, e2⟩ := List.getElem?_eq_some_iff.1 h2
    rcases Nat.lt_trichotomy p p' with h | h | h
    · exact absurd rfl (List.pairwise_iff_getElem.1 hn2 p p' q1 q2 h x (e1 ▸ h3) x (e2 ▸ h4))
    · exact h
    · exact absurd rfl (List.pairwise_iff_getElem.1 hn2 p' p q2 q1 h x (e2 ▸ h4) x (e1 ▸ h3))
  let a : Nat → Int := fun k => if 0 ≤ lz fx k then lz fx k else if h : ∃ (p : Nat) (r : List Int), has[p]? = some r ∧ (k : Int) ∈ r then ((h.choose : Nat) : Int) else -1
  have ain : ∀ k, k < m → ∀ (p : Nat) (r : List Int), has[p]? = some r → (k : Int) ∈ r → a k = (p : Int) := by
    intro k hk p r hr hx
    obtain ⟨k', _, e, hf⟩ := hm k (List.mem_flatten.2 ⟨r, List.mem_of_getElem? hr, hx⟩)
    obtain rfl : k = k' := by omega
    show (if 0 ≤ lz fx k then lz fx k else if h : ∃ (p : Nat) (r : List Int), has[p]? = some r ∧ (k : Int) ∈ r then ((h.choose : Nat) : Int) else -1) = (p : Int)
    have h : ∃ (p : Nat) (r : List Int), has[p]? = some r ∧ (k : Int) ∈ r := ⟨p, r, hr, hx⟩
    rw [if_neg (by omega), dif_pos h]
    obtain ⟨r', h1, h2⟩ := h.choose_spec
    rw [uniq _ _ _ _ _ h1 hr h2 hx]
  refine ⟨a, fun k _ h => if_pos h, fun k hk h => ?_, ain, fun p r hr => ?_⟩
  · by_cases h' : ∃ (p : Nat) (r : List Int), has[p]? = some r ∧ (k : Int) ∈ r
    · obtain ⟨p, r, h1, h2⟩ := h'
      exact .inr ⟨p, r, by rw [← hl]; exact (List.getElem?_eq_some_iff.1 h1).1, h1, h2, ain k hk p r h1 h2⟩
    · left
      show (if 0 ≤ lz fx k then lz fx k else if h : ∃ (p : Nat) (r : List Int), has[p]? = some r ∧ (k : Int) ∈ r then ((h.choose : Nat) : Int) else -1) = -1
      rw [if_neg (by omega), dif_neg h']
  · have hrn : r.Nodup := hn1 r (List.mem_of_getElem? hr)
    have hrm : ∀ x ∈ r, ∃ k, k < m ∧ x = (k : Int) := fun x hx => by
      obtain ⟨k, h1, h2, _⟩ := hm x (List.mem_flatten.2 ⟨r, List.mem_of_getElem? hr, hx⟩)
      exact ⟨k, h1, h2⟩
    rw [← sum_mem r hrn hrm]
    unfold cnt
    rw [← sumN_add]
    refine sumN_congr fun k hk => ?_
    by_cases hx : (k : Int) ∈ r
    · obtain ⟨k', _, e, hf⟩ := hm k (List.mem_flatten.2 ⟨r, List.mem_of_getElem? hr, hx⟩)
      obtain rfl : k = k' := by omega
      rw [if_pos (ain k hk p r hr hx), if_pos hx, if_neg (by omega)]
    · rw [if_neg hx]
      by_cases h : 0 ≤ lz fx k
      · have : a k = lz fx k := if_pos h
        rw [this]
        omega
      · rw [if_neg (show ¬ lz fx k = (p : Int) by omega), if_neg]
        intro e
        by_cases h' : ∃ (p : Nat) (r : List Int), has[p]? = some r ∧ (k : Int) ∈ r
        · obtain ⟨p', r', h1, h2⟩ := h'
          have := ain k hk p' r' h1 h2
          obtain rfl : p = p' := by omega
          rw [hr] at h1
          obtain rfl := Option.some.inj h1
          exact hx h2
        · have : a k = -1 := by
            show (if 0 ≤ lz fx k then lz fx k else if h : ∃ (p : Nat) (r : List Int), has[p]? = some r ∧ (k : Int) ∈ r then ((h.choose : Nat) : Int) else -1) = -1
            rw [if_neg h, dif_neg h']
          omega

theorem cap_at {people : List route_Person} {p : Nat} (hp : p < people.length) : people[p].capacity = capI people p := by
  unfold capI
  rw [List.getElem?_eq_getElem hp]
  rfl

theorem room_val {people : List route_Person} {l : List route_Work} (hd : Desk people l) {R : Type} : ∃ r, Option.bind (makeL 35184372088832 (people.length : Int) (0 : Int)) (fun x29 => rangeB (R := R) (fun k52 s60 => Option.bind (idx people (k52 : Int)) fun x75 => Option.bind (idx s60 (k52 : Int)) fun x94 => Option.bind (setI s60 (k52 : Int) x75.capacity) fun x99 => some (.nx x99)) people.length 0 x29) = some (.fin r) ∧ r.length = people.length ∧ ∀ p, p < people.length → r[p]? = some (capI people p) := by
  have hnp := hd.np
  have : makeL 35184372088832 (people.length : Int) (0 : Int) = some (List.replicate people.length (0 : Int)) := by
    unfold makeL
    rw [if_pos (by omega)]
    simp
  rw [this, Option.bind_some]
  obtain ⟨r, h1, h2, h3⟩ := rangeB_inv (R := R) (b := fun k52 s60 => Option.bind (idx people (k52 : Int)) fun x75 => Option.bind (idx s60 (k52 : Int)) fun x94 => Option.bind (setI s60 (k52 : Int) x75.capacity) fun x99 => some (.nx x99)) people.length (fun k (s : List Int) => s.length = people.length ∧ ∀ p, p < k → s[p]? = some (capI people p)) (s := List.replicate people.length (0 : Int)) ⟨by simp, fun p hp => by omega⟩ (by
    rintro k s hk ⟨h1, h2⟩
    have hks : k < s.length := by omega
    rw [idx_lt people k hk, Option.bind_some, idx_lt s k hks, Option.bind_some, setI_nat hks, Option.bind_some]
    refine ⟨_, rfl, by simp [h1], fun p hp => ?_⟩
    by_cases e : p = k
    · subst e; rw [List.getElem?_set_self hks, cap_at hk]
    · rw [List.getElem?_set_ne (fun h => e h.symm)]; exact h2 p (by omega))
  exact ⟨r, h1, h2, h3⟩

theorem cnt_succ (m : Nat) (a : Nat → Int) (p : Nat) : cnt (m + 1) a p = cnt m a p + if a m = (p : Int) then 1 else 0 := rfl

/-- what is asked for may be asked for -/
structure Req (people : List route_Person) (l : List route_Work) (fx : List Int) : Prop where
  len : fx.length = l.length
  rg : ∀ k, k < l.length → lz fx k = -2 ∨ lz fx k = -1 ∨ ∃ q, q < people.length ∧ lz fx k = (q : Int)

theorem split_val {people : List route_Person} {l : List route_Work} (hd : Desk people l) {fx : List Int} (hr : Req people l fx) {r0 : List Int} (hl0 : r0.length = people.length) (hr0 : ∀ p, p < people.length → r0[p]? = some (capI people p)) {R : Type} :
    ∃ free room, rangeB (R := R) (fun k109 s119 => Option.bind (Option.bind (idx fx (k109 : Int)) fun x148 => Option.bind (if (decide ((0 : Int) ≤ x148)) = true then Option.bind (idx s119.2 x148) fun x165 => Option.bind (setI s119.2 x148 (w64 (x165 - 1))) fun x174 => some (s119.1, x174) else Option.bind (if (x148 == (-1)) = true then Option.bind (appendL 17592186044416 s119.1 ([(k109 : Int)] : List Int)) fun x196 => some x196 else some s119.1) fun s180 => some (s180, s119.2)) fun s153 => some (s153.1, s153.2)) fun s137 => some (.nx (s137.1, s137.2))) fx.length 0 (([] : (List Int)), r0) = some (.fin (free, room)) ∧
      room.length = people.length ∧ (∀ p, p < people.length → room[p]? = some (capI people p - (cnt l.length (lz fx) p : Int))) ∧ free.Pairwise (· < ·) ∧ ∀ x, x ∈ free ↔ ∃ k, k < l.length ∧ x = (k : Int) ∧ lz fx k = -1 := by
  have hnl := hd.nl
  obtain ⟨⟨free, room⟩, h1, h2, h3, h4, h5, _⟩ := rangeB_inv (R := R) (b := fun k109 (s119 : List Int × List Int) => Option.bind (Option.bind (idx fx (k109 : Int)) fun x148 => Option.bind (if (decide ((0 : Int) ≤ x148)) = true then Option.bind (idx s119.2 x148) fun x165 => Option.bind (setI s119.2 x148 (w64 (x165 - 1))) fun x174 => some (s119.1, x174) else Option.bind (if (x148 == (-1)) = true then Option.bind (appendL 17592186044416 s119.1 ([(k109 : Int)] : List Int)) fun x196 => some x196 else some s119.1) fun s180 => some (s180, s119.2)) fun s153 => some (s153.1, s153.2)) fun s137 => some (.nx (s137.1, s137.2))) fx.length
    (fun k s => s.2.length = people.length ∧ (∀ p, p < people.length → s.2[p]? = some (capI people p - (cnt k (lz fx) p : Int))) ∧ s.1.Pairwise (· < ·) ∧ (∀ x, x ∈ s.1 ↔ ∃ j, j < k ∧ x = (j : Int) ∧ lz fx j = -1) ∧ s.1.length ≤ k)
    (s := (([] : List Int), r0)) ⟨hl0, fun p hp => by rw [hr0 p hp]; simp [cnt, sumN], List.Pairwise.nil, fun x => by simp, Nat.le_refl _⟩ (by
      rintro k ⟨free, room⟩ hk ⟨i1, i2, i3, i4, i5⟩
      simp only at i1 i2 i3 i4 i5 ⊢
      have hkl : k < l.length := by rw [← hr.len]; exact hk
      rw [lz_idx hk, Option.bind_some]
      rcases hr.rg k hkl with e | e | ⟨q, hq, e⟩
      · rw [if_neg (by rw [e]; decide), if_neg (by rw [e]; decide)]
        simp only [Option.bind_some]
        refine ⟨_, rfl, i1, fun p hp => ?_, i3, fun x => ?_, Nat.le_succ_of_le i5⟩
        · rw [i2 p hp, cnt_succ, if_neg (by omega)]; rfl
        · rw [i4]
          constructor
          · rintro ⟨j, a, b, c⟩; exact ⟨j, by omega, b, c⟩
          · rintro ⟨j, a, b, c⟩
            refine ⟨j, ?_, b, c⟩
            rcases Nat.lt_or_eq_of_le (Nat.le_of_lt_succ a) with h | h
            · exact h
            · rw [h] at c; omega
      · rw [if_neg (by rw [e]; decide), if_pos (by rw [e]; rfl)]
        have happ : appendL 17592186044416 free ([(k : Int)] : List Int) = some (free ++ [(k : Int)]) := by
          unfold appendL
          rw [if_pos (by simp; omega)]
        rw [happ]
        simp only [Option.bind_some]
        refine ⟨_, rfl, i1, fun p hp => ?_, ?_, fun x => ?_, by simp; omega⟩
        · rw [i2 p hp, cnt_succ, if_neg (by omega)]; rfl
        · refine List.pairwise_append.2 ⟨i3, List.pairwise_singleton _ _, fun x hx y hy => ?_⟩
          obtain ⟨j, a, b, _⟩ := (i4 x).1 hx
          simp at hy
          omega
        · simp only [List.mem_append, List.mem_singleton, i4]
          constructor
          · rintro (⟨j, a, b, c⟩ | h)
            · exact ⟨j, by omega, b, c⟩
            · exact ⟨k, by omega, h, e⟩
          · rintro ⟨j, a, b, c⟩
            by_cases ej : j = k
            · subst ej; exact .inr b
            · exact .inl ⟨j, by omega, b, c⟩
      · rw [if_pos (by rw [e]; simp), e, idx_nat, i2 q hq, Option.bind_some]
        have hc := hd.cap q hq
        have hc2 := cnt_le k (lz fx) q
        have hkb : k ≤ 200 := by omega
        have ew : w64 (capI people q - (cnt k (lz fx) q : Int) - 1) = capI people q - (cnt k (lz fx) q : Int) + (-1) := by rw [w64_id (by omega) (by omega)]; omega
        obtain ⟨r, r1, r2, r3⟩ := bump_val i1 i2 hq _ (-1) ew
        rw [r1]
        simp only [Option.bind_some]
        refine ⟨_, rfl, r2, fun p hp => ?_, i3, fun x => ?_, Nat.le_succ_of_le i5⟩
        · rw [r3 p hp, cnt_succ]
          congr 1
          by_cases ep : p = q
          · subst ep; rw [if_pos rfl, if_pos e]; omega
          · rw [if_neg ep, if_neg (by omega)]; simp
        · rw [i4]
          constructor
          · rintro ⟨j, a, b, c⟩; exact ⟨j, by omega, b, c⟩
          · rintro ⟨j, a, b, c⟩
            refine ⟨j, ?_, b, c⟩
            rcases Nat.lt_or_eq_of_le (Nat.le_of_lt_succ a) with h | h
            · exact h
            · rw [h] at c; omega)
  rw [hr.len] at h3 h5
  exact ⟨free, room, h1, h2, h3, h4, h5⟩

theorem any_room (r : List Int) : ∃ b, slices_ContainsFunc_Lint_int r (fun y237 => some (portref2_fits_2 y237)) = some b ∧ (b = true ↔ ∃ x ∈ r, x < 0) := by
  show ∃ b, slices_ContainsFunc_Lint_int r (fun y => some ((fun x : Int => decide (x < 0)) y)) = some b ∧ _
  unfold slices_ContainsFunc_Lint_int slices_IndexFunc_Lint_int
  rw [rangeB_index]
  have h1 := findIdx_any r (fun x => decide (x < 0))
  have h2 : (r.any (fun x => decide (x < 0)) = true ↔ ∃ x ∈ r, x < 0) := by simp
  cases hf : r.findIdx? (fun x => decide (x < 0)) with
  | none =>
    rw [hf] at h1
    refine ⟨false, rfl, ?_⟩
    rw [← h2, ← h1]
    simp
  | some i =>
    rw [hf] at h1
    refine ⟨_, rfl, ?_⟩
    rw [← h2, ← h1]

open Classical in
theorem fits_val {people : List route_Person} {l : List route_Work} (hd : Desk people l) {fx : List Int} (hr : Req people l fx) : portref2_fits people l fx = some (decide (Feas (abB people l) (capI people) people.length l.length (lz fx))) := by
  have hnp := hd.np
  have hnl := hd.nl
  unfold portref2_fits
  obtain ⟨r0, a1, a2, a3⟩ := room_val hd (R := Bool)
  obtain ⟨free, room, b1, b2, b3, b4, b5⟩ := split_val hd hr a2 a3 (R := Bool)
  rcases hmk : makeL 35184372088832 (people.length : Int) (0 : Int) with _ | x29
  · rw [hmk] at a1; cases a1
  rw [hmk, Option.bind_some] at a1
  rw [Option.bind_some, a1, Option.bind_some, Lp.andThen_fin, b1, Option.bind_some, Lp.andThen_fin]
  have hmk2 : makeL 11728124029610 (people.length : Int) ([] : (List Int)) = some (List.replicate people.length ([] : List Int)) := by
    unfold makeL
    rw [if_pos (by omega)]
    simp
  have hmk3 : makeL 281474976710656 (people.length : Int) (false : Bool) = some (List.replicate people.length false) := by
    unfold makeL
    rw [if_pos (by omega)]
    simp
  rw [hmk2, Option.bind_some]
  obtain ⟨bb, c1, c2⟩ := any_room room
  rw [c1, Option.bind_some]
  have cap_of : ∀ g, Sol (abB people l) (capI people) people.length l.length (lz fx) g → ∀ p, p < people.length → cnt l.length (lz fx) p ≤ cnt l.length g p := by
    intro g hg p hp
    refine sumN_le fun k hk => ?_
    by_cases e : lz fx k = (p : Int)
    · rw [if_pos e, if_pos ((hg.fix k hk (by omega)).trans e)]; exact Nat.le_refl _
    · rw [if_neg e]; exact Nat.zero_le _
  cases bb with
  | true =>
    rw [if_pos rfl]
    obtain ⟨x, hx, hneg⟩ := c2.1 rfl
    congr 1
    symm
    rw [decide_eq_false_iff_not]
    rintro ⟨g, hg⟩
    obtain ⟨p, hp⟩ := List.getElem?_of_mem hx
    have hp' : p < people.length := by rw [← b2]; exact (List.getElem?_eq_some_iff.1 hp).1
    rw [b3 p hp'] at hp
    have h1 := Option.some.inj hp
    have h2 := hg.room p hp'
    have h3 := cap_of g hg p hp'
    omega
  | false =>
    rw [if_neg (by decide)]
    have hge : ∀ (p : Nat) (m : Int), room[p]? = some m → 0 ≤ m := by
      intro p m hm
      by_cases h : m < 0
      · have := c2.2 ⟨m, List.mem_of_getElem? hm, h⟩
        cases this
      · omega
    have frn : free.Nodup := b4.imp fun h => by omega
    have rowsOf : ∀ (i : Nat) (has : List (List Int)), has.flatten.Perm (free.take i) → has.flatten.Nodup ∧ ∀ x ∈ has.flatten, ∃ k, k < l.length ∧ x = (k : Int) ∧ lz fx k = -1 := by
      intro i has hp
      refine ⟨hp.nodup_iff.2 (frn.sublist (List.take_sublist _ _)), fun x hx => (b5 x).1 (List.mem_of_mem_take (hp.mem_iff.1 hx))⟩
    have hP0 : PInv people l room (List.replicate people.length ([] : List Int)) := by
      refine ⟨b2, by simp, fun (p : Nat) (m : Int) hm => ?_, fun (p : Nat) r m hrr hm => ?_, fun (p : Nat) r hrr => ?_⟩
      · by_cases hp : p < people.length
        · rw [b3 p hp] at hm
          have := Option.some.inj hm
          have := hd.cap p hp
          omega
        · rw [List.getElem?_eq_none (by omega)] at hm; cases hm
      · rw [List.getElem?_replicate] at hrr
        split at hrr
        · obtain rfl := Option.some.inj hrr
          have := hge p m hm
          simpa using this
        · cases hrr
      · rw [List.getElem?_replicate] at hrr
        split at hrr
        · obtain rfl := Option.some.inj hrr
          intro x hx; cases hx
        · cases hrr
    obtain ⟨o, ho, hq⟩ := rangeB_spec (R := Bool) (body := fun k254 s262 => Option.bind (idx free (k254 : Int)) fun x277 => Option.bind (makeL 281474976710656 (people.length : Int) (false : Bool)) fun x288 => Option.bind (portref2_fits_1 x277 x288 people room l s262 ) fun x297 => if (!x297.1) = true then some (.rt false) else some (.nx x297.2.2))
      free.length (fun i has => PInv people l room has ∧ has.flatten.Perm (free.take i)) (fun o => (∃ has, o = .fin has ∧ PInv people l room has ∧ has.flatten.Perm free) ∨ (o = .rt false ∧ ¬ Feas (abB people l) (capI people) people.length l.length (lz fx)))
      (s := List.replicate people.length ([] : List Int)) ⟨hP0, by simp⟩ (by
        rintro i has hi ⟨h1, h2⟩
        rw [idx_lt free i hi, Option.bind_some, hmk3, Option.bind_some]
        obtain ⟨w, hw, ew, hfw⟩ := (b5 free[i]).1 (List.getElem_mem hi)
        obtain ⟨b, s', has', r1, r2, r3, r4, r5⟩ := place_says hd (people.length + 1) w (List.replicate people.length false) room has hw (by simp) h1 (Nat.lt_succ_of_le (uns_rep _))
        unfold portref2_fits_1
        rw [ew, r1, Option.bind_some]
        have etake : free.take (i + 1) = free.take i ++ [(w : Int)] := by rw [List.take_add_one, List.getElem?_eq_getElem hi, ew]; rfl
        cases b with
        | true =>
          obtain ⟨q1, q2, q3⟩ := r5 rfl
          rw [if_neg (by simp)]
          refine ⟨_, rfl, q1, ?_⟩
          simp only
          rw [etake]
          exact q2.trans ((h2.cons _).trans (List.perm_append_singleton _ _).symm)
        | false =>
          obtain ⟨rfl, q1, q2⟩ := r4 rfl
          rw [if_pos (by simp)]
          refine ⟨_, rfl, .inr ⟨rfl, ?_⟩⟩
          rintro ⟨g, hg⟩
          obtain ⟨n1, n2⟩ := rowsOf i has' h2
          obtain ⟨a, f1, f2, f3, f4⟩ := rows_fun h1.lh n1 n2
          have wnot : ∀ (p : Nat) (r : List Int), has'[p]? = some r → ¬ (w : Int) ∈ r := by
            intro p r hrr hx
            have hx' := h2.mem_iff.1 (List.mem_flatten.2 ⟨r, List.mem_of_getElem? hrr, hx⟩)
            rw [← ew] at hx'
            obtain ⟨j, hj, ej⟩ := List.mem_iff_getElem.1 hx'
            rw [List.length_take] at hj
            rw [List.getElem_take] at ej
            have := List.pairwise_iff_getElem.1 b4 j i (by omega) hi (by omega)
            omega
          have roomAt : ∀ p, p < people.length → ∃ r, has'[p]? = some r := fun p hp => ⟨_, List.getElem?_eq_getElem (by rw [h1.lh]; exact hp)⟩
          have gin : ∀ k, k < l.length → lz fx k = -1 → ∀ q, q < people.length → g k = (q : Int) → (∀ m, room[q]? = some m → 0 < m → sn s' q) → sn s' q ∨ room[q]? = some 0 := by
            intro k hk hf q hq hgq hs
            rcases Int.lt_or_eq_of_le (hge q _ (b3 q hq)) with h | h
            · exact .inl (hs _ (b3 q hq) h)
            · right; rw [b3 q hq, ← h]
          refine obstruct (n := people.length) (m := l.length) (a := a) (g := g) (S := fun p => sn s' p ∨ room[p]? = some 0) (fun p hp hs => ?_) (fun k hk p hp hak hs => ?_) hw ?_ ?_
          · obtain ⟨r, hrr⟩ := roomAt p hp
            have e1 := f4 p r hrr
            have e2 := hg.room p hp
            have e3 := b3 p hp
            rcases hs with hs | hs
            · obtain ⟨⟨r', g1, g2⟩, _⟩ := q1 p hp hs sn_rep
              rw [hrr] at g1
              obtain rfl := Option.some.inj g1
              rw [e3] at g2
              have := Option.some.inj g2
              omega
            · rw [e3] at hs
              have := Option.some.inj hs
              omega
          · by_cases h0 : 0 ≤ lz fx k
            · have e1 := f1 k hk h0
              have e2 := hg.fix k hk h0
              exact ⟨p, hp, by omega, hs⟩
            · rcases f2 k hk (by omega) with e | ⟨p', r, hp', hrr, hx, e⟩
              · omega
              · obtain rfl : p = p' := by omega
                obtain ⟨k', _, ek, hf⟩ := n2 k (List.mem_flatten.2 ⟨r, List.mem_of_getElem? hrr, hx⟩)
                obtain rfl : k = k' := by omega
                obtain ⟨q, hq, hgq, hab⟩ := hg.free k hk hf
                refine ⟨q, hq, hgq, gin k hk hf q hq hgq fun m hm hpos => ?_⟩
                rcases hs with hs | hs
                · exact (q1 p hp hs sn_rep).2 r hrr k hx k rfl q hq hab ⟨m, hm, hpos⟩
                · have := h1.le p r 0 hrr hs
                  have : r = [] := List.eq_nil_of_length_eq_zero (by omega)
                  subst this
                  cases hx
          · rintro ⟨p, hp, e, _⟩
            rcases f2 w hw (by omega) with e' | ⟨p', r, _, hrr, hx, _⟩
            · omega
            · exact wnot p' r hrr hx
          · obtain ⟨q, hq, hgq, hab⟩ := hg.free w hw hfw
            exact ⟨q, hq, hgq, gin w hw hfw q hq hgq fun m hm hpos => q2 q hq hab ⟨m, hm, hpos⟩⟩)
      (by
        rintro has ⟨h1, h2⟩
        exact .inl ⟨has, rfl, h1, by rw [List.take_length] at h2; exact h2⟩)
    · rw [ho, Option.bind_some]
      rcases hq with ⟨has, rfl, h1, h2⟩ | ⟨rfl, hno⟩
      · rw [Lp.andThen_fin]
        congr 1
        symm
        rw [decide_eq_true_eq]
        obtain ⟨n1, n2⟩ := rowsOf free.length has (by rw [List.take_length]; exact h2)
        obtain ⟨a, f1, f2, f3, f4⟩ := rows_fun h1.lh n1 n2
        refine ⟨a, fun k hk e => ?_, f1, fun k hk e => ?_, fun p hp => ?_⟩
        · rcases f2 k hk (by omega) with e' | ⟨p, r, _, hrr, hx, _⟩
          · exact e'
          · obtain ⟨k', _, ek, hf⟩ := n2 k (List.mem_flatten.2 ⟨r, List.mem_of_getElem? hrr, hx⟩)
            obtain rfl : k = k' := by omega
            omega
        · obtain ⟨r, hr1, hr2⟩ := List.mem_flatten.1 (h2.mem_iff.2 ((b5 (k : Int)).2 ⟨k, hk, rfl, e⟩))
          obtain ⟨p, hp⟩ := List.getElem?_of_mem hr1
          obtain ⟨k', _, ek, hab⟩ := h1.mem p r hp k hr2
          obtain rfl : k = k' := by omega
          exact ⟨p, by rw [← h1.lh]; exact (List.getElem?_eq_some_iff.1 hp).1, f3 k hk p r hp hr2, hab⟩
        · have hph : p < has.length := by rw [h1.lh]; exact hp
          have hrr : has[p]? = some has[p] := List.getElem?_eq_getElem hph
          have e1 := f4 p _ hrr
          have e2 := h1.le p _ _ hrr (b3 p hp)
          omega
      · rw [Lp.andThen_rt]
        congr 1
        symm
        rw [decide_eq_false_iff_not]
        exact hno
end Go.Proofs.YtgmenjhmnjhgoaaDoor.M
