/-
  The matcher: a work for a person, if all others keep a place.
-/
import Derived.Test.YtgmenjhmnjhgoaaDoorRouteMatchesMatClear
namespace Go.Proofs.YtgmenjhmnjhgoaaDoor.M
open Go Go.Pu
set_option linter.unusedSimpArgs false
set_option linter.unusedVariables false

/-- what a state asks: those that are placed stay placed, those that are fixed stay where they are -/
def reqT (t : route_matcher) (j : Nat) : Int := if lz t.at_ j = -1 then -2 else if t.fixed[j]? = some true then lz t.at_ j else -1
theorem uns_rep (n : Nat) : uns n (List.replicate n false) ≤ n := by
  have h : ∀ (n : Nat) (f : Nat → Nat), (∀ i, f i ≤ 1) → sumN n f ≤ n := by
    intro n
    induction n with
    | zero => intro f _; exact Nat.le_refl _
    | succ n ih => intro f hf; rw [sumN]; have := ih f hf; have := hf n; omega
  exact h n _ fun i => by split <;> omega
theorem sn_rep {n q : Nat} : ¬ sn (List.replicate n false) q := by
  unfold sn
  rw [List.getElem?_replicate]
  split <;> simp

structure Took (people : List route_Person) (l : List route_Work) (t t' : route_matcher) (k p : Nat) : Prop where
  inv : MInv people l t'
  fix : t'.fixed = t.fixed
  here : lz t'.at_ k = (p : Int)
  none_ : ∀ j, j < l.length → j ≠ k → (lz t'.at_ j = -1 ↔ lz t.at_ j = -1)
  stay : ∀ j, j < l.length → t.fixed[j]? = some true → lz t'.at_ j = lz t.at_ j
  able : abB people l p k = true

theorem take_val {people : List route_Person} {l : List route_Work} (hd : Desk people l) {t : route_matcher} (h : MInv people l t) {k p : Nat} (hk : k < l.length) (hp : p < people.length) (hf : t.fixed[k]? = some false) :
    ∃ b t', route_matcher_take t (k : Int) (p : Int) = some (b, t') ∧
      (b = false → t' = t ∧ ¬ (abB people l p k = true ∧ Feas (abB people l) (capI people) people.length l.length fun j => if j = k then (p : Int) else reqT t j)) ∧ (b = true → Took people l t t' k p) := by
  have hla := h.la
  have hk' : k < t.at_.length := by omega
  unfold route_matcher_take
  rw [h.pe, h.wk, idx_lt people p hp, Option.bind_some, idx_lt l k hk, Option.bind_some, (ab_val hp hk).1, Option.bind_some]
  cases hab : abB people l p k with
  | false =>
    rw [if_pos (by decide)]
    exact ⟨false, t, rfl, fun _ => ⟨rfl, fun h => by cases h.1⟩, fun h => by cases h⟩
  | true =>
    rw [if_neg (by decide), lz_idx hk', Option.bind_some]
    obtain ⟨t1, m1, m2, m3, m4⟩ := move_val hd h hk (x := -1) (.inl rfl)
    rw [m1, Option.bind_some]
    have hnp := hd.np
    have hmk : makeL 281474976710656 (t1.people.length : Int) (false : Bool) = some (List.replicate people.length false) := by
      unfold makeL
      rw [m2.pe, if_pos (by omega)]
      simp
    rw [hmk, Option.bind_some]
    have hc : ∀ q, cnt l.length (lz t1.at_) q + (if lz t.at_ k = (q : Int) then 1 else 0) = cnt l.length (lz t.at_) q := by
      intro q
      have := cnt_move (a := t.at_) (x := -1) hk hla q
      rw [if_neg (show ¬ (-1 : Int) = (q : Int) by omega), ← m3] at this
      simpa using this
    have hat1 : ∀ j, lz t1.at_ j = if j = k then -1 else lz t.at_ j := fun j => by rw [m3, lz_set hk']
    obtain ⟨b, t2, s', r1, r2, r3, r4, r5⟩ := clear_says hd (t1.people.length + 1) t1 p (List.replicate people.length false) m2 hp (by simp) (by rw [m2.pe]; exact Nat.lt_succ_of_le (uns_rep _))
    unfold route_matcher_clear
    rw [r1, Option.bind_some]
    cases b with
    | false =>
      obtain ⟨rfl, hfull, hsp, hclo⟩ := r4 rfl
      rw [if_neg (by simp)]
      obtain ⟨t3, n1, n2, n3, n4⟩ := move_val hd m2 hk (x := lz t.at_ k) (by
        rcases h.rg k hk with e | ⟨q, hq, e, ha⟩
        · exact .inl e
        · refine .inr ⟨q, hq, e, ha, ?_⟩
          have h1 := hc q
          have h2 := h.rm q hq
          rw [if_pos e] at h1
          split <;> omega)
      simp only [n1, Option.bind_some]
      have e3 : t3.at_ = t.at_ := by
        rw [n3, m3, List.set_set]
        refine lz_ext (by simp) fun j hj => ?_
        rw [lz_set hk']
        split
        · rename_i e; rw [e]
        · rfl
      have := h.ext n2 e3 (n4.trans m4)
      subst this
      refine ⟨false, t3, rfl, fun _ => ⟨rfl, ?_⟩, fun h => by cases h⟩
      rintro ⟨_, g, g1, g2, g3, g4⟩
      refine obstruct (n := people.length) (m := l.length) (a := lz t2.at_) (g := g) (S := sn s') (fun q hq hs => ?_) (fun j hj q hq hj' hs => ?_) hk ?_ ⟨p, hp, ?_, hsp⟩
      · have h1 := (hclo q hq hs sn_rep).1
        have h2 := g4 q hq
        omega
      · have ejk : j ≠ k := by
          intro e
          subst e
          rw [hat1, if_pos rfl] at hj'
          omega
        rw [hat1, if_neg ejk] at hj'
        by_cases hfx : t3.fixed[j]? = some true
        · have e : (if j = k then (p : Int) else reqT t3 j) = (q : Int) := by
            rw [if_neg ejk]
            unfold reqT
            rw [if_neg (by omega), if_pos hfx, hj']
          have := g2 j hj (by simp only [e]; omega)
          simp only [e] at this
          exact ⟨q, hq, this, hs⟩
        · have hfx' : t2.fixed[j]? = some false := by
            have hjx : j < t2.fixed.length := by rw [m2.lx]; exact hj
            rw [m4] at hjx ⊢
            rw [List.getElem?_eq_getElem hjx] at hfx ⊢
            simpa using hfx
          have e : (if j = k then (p : Int) else reqT t3 j) = -1 := by
            rw [if_neg ejk]
            unfold reqT
            rw [if_neg (by omega), if_neg hfx]
          obtain ⟨q', hq', e', ha'⟩ := g3 j hj e
          exact ⟨q', hq', e', (hclo q hq hs sn_rep).2 j hj (by rw [hat1, if_neg ejk]; exact hj') hfx' q' hq' ha'⟩
      · rintro ⟨q, _, e, _⟩
        rw [hat1, if_pos rfl] at e
        omega
      · have := g2 k hk (by simp)
        simpa using this
    | true =>
      have q := r5 rfl
      rw [if_pos rfl]
      have hk2 : lz t2.at_ k = -1 := (q.none_ k hk).2 (by rw [hat1, if_pos rfl])
      obtain ⟨t3, n1, n2, n3, n4⟩ := move_val hd q.inv hk (x := (p : Int)) (.inr ⟨p, hp, rfl, hab, by rw [if_neg (by omega)]; have := q.room; omega⟩)
      simp only [n1, Option.bind_some]
      have hat3 : ∀ j, lz t3.at_ j = if j = k then (p : Int) else lz t2.at_ j := fun j => by rw [n3, lz_set (by rw [q.inv.la]; exact hk)]
      refine ⟨true, t3, rfl, (fun h => by cases h), fun _ => ⟨n2, n4.trans (q.fix.trans m4), by rw [hat3, if_pos rfl], fun j hj e => ?_, fun j hj hfx => ?_, hab⟩⟩
      · rw [hat3, if_neg e, q.none_ j hj, hat1, if_neg e]
      · have e : j ≠ k := by intro e; subst e; rw [hf] at hfx; cases hfx
        rw [hat3, if_neg e, q.stay j hj (by rw [m4]; exact hfx), hat1, if_neg e]

/-- what is there is a way -/
theorem MInv.feas {people : List route_Person} {l : List route_Work} {t : route_matcher} (h : MInv people l t) {req : Nat → Int}
    (h1 : ∀ k, k < l.length → req k = -2 → lz t.at_ k = -1) (h2 : ∀ k, k < l.length → 0 ≤ req k → lz t.at_ k = req k) (h3 : ∀ k, k < l.length → req k = -1 → lz t.at_ k ≠ -1) : Feas (abB people l) (capI people) people.length l.length req :=
  ⟨lz t.at_, h1, h2, fun k hk e => (h.rg k hk).resolve_left (h3 k hk e), h.rm⟩
end Go.Proofs.YtgmenjhmnjhgoaaDoor.M
