/-
  The matcher: a move, a free place by moving others, a work for a person.
-/
import Derived.Test.YtgmenjhmnjhgoaaDoorRouteMatchesMatSum
import Derived.Test.YtgmenjhmnjhgoaaDoorRouteMatchesRouteOrder
import Derived.Test.YtgmenjhmnjhgoaaDoorRouteMatchesRouteBase
namespace Go.Proofs.YtgmenjhmnjhgoaaDoor.M
open Go Go.Pu
set_option linter.unusedSimpArgs false
set_option linter.unusedVariables false

theorem contains_skill (s : List route_Skill) (q : route_Skill → Bool) : ∃ b, slices_ContainsFunc_Lroute_Skill_route_Skill s (fun x => some (q x)) = some b := by
  unfold slices_ContainsFunc_Lroute_Skill_route_Skill slices_IndexFunc_Lroute_Skill_route_Skill
  rw [rangeB_index]
  cases s.findIdx? q <;> exact ⟨_, rfl⟩
theorem able_eq (p : route_Person) (needs : List route_Skill) : ∃ b, route_Person_able p needs = some b ∧ portref2_able p needs = some b := by
  have same : portref2_able p needs = route_Person_able p needs := rfl
  rw [same]
  unfold route_Person_able route_Person_able_1
  obtain ⟨x, hx, hq⟩ := rangeB_spec (R := Bool) (body := fun k14 (_ : Unit) => Option.bind (idx needs (k14 : Int)) fun x33 => Option.bind (slices_ContainsFunc_Lroute_Skill_route_Skill p.skills (fun y50 => some ((strEq y50.name x33.name) && (decide (x33.rank ≤ y50.rank))))) fun x51 => if (!x51) = true then some (.rt false) else some (.nx ()))
    needs.length (fun _ _ => True) (fun _ => True) (s := ()) trivial
    (by
      rintro k _ hk _
      have hx : needs[k]? = some needs[k] := List.getElem?_eq_getElem hk
      generalize needs[k] = y at hx
      obtain ⟨b, hb⟩ := contains_skill p.skills (fun z => (strEq z.name y.name) && (decide (y.rank ≤ z.rank)))
      simp only [idx_nat, hx, Option.bind_some, hb]
      cases b with
      | true => exact ⟨.nx (), rfl, trivial⟩
      | false => exact ⟨.rt false, rfl, trivial⟩)
    (fun _ _ => trivial)
  rw [hx]
  cases x with
  | fin s => exact ⟨true, rfl, rfl⟩
  | rt r => exact ⟨r, rfl, rfl⟩

/-- who can do what -/
def abB (people : List route_Person) (l : List route_Work) (p k : Nat) : Bool := match people[p]?, l[k]? with
  | some x, some y => route_Person_able x y.needs == some true
  | _, _ => false
theorem ab_val {people : List route_Person} {l : List route_Work} {p k : Nat} (hp : p < people.length) (hk : k < l.length) : route_Person_able people[p] l[k].needs = some (abB people l p k) ∧ portref2_able people[p] l[k].needs = some (abB people l p k) := by
  obtain ⟨b, h1, h2⟩ := able_eq people[p] l[k].needs
  have : abB people l p k = b := by
    unfold abB
    rw [List.getElem?_eq_getElem hp, List.getElem?_eq_getElem hk]
    simp only [h1]
    cases b <;> rfl
  rw [this]
  exact ⟨h1, h2⟩
def capI (people : List route_Person) (p : Nat) : Int := (people[p]?.map (·.capacity)).getD 0

structure Desk (people : List route_Person) (l : List route_Work) : Prop where
  np : people.length ≤ 40
  nl : l.length ≤ 200
  cap : ∀ p, p < people.length → 0 ≤ capI people p ∧ capI people p ≤ 100

structure MInv (people : List route_Person) (l : List route_Work) (t : route_matcher) : Prop where
  pe : t.people = people
  wk : t.work = l
  la : t.at_.length = l.length
  lf : t.free.length = people.length
  lx : t.fixed.length = l.length
  rg : ∀ k, k < l.length → lz t.at_ k = -1 ∨ ∃ q, q < people.length ∧ lz t.at_ k = (q : Int) ∧ abB people l q k = true
  fr : ∀ p, p < people.length → t.free[p]? = some (capI people p - (cnt l.length (lz t.at_) p : Int))
  rm : ∀ p, p < people.length → (cnt l.length (lz t.at_) p : Int) ≤ capI people p

theorem bump_val {fr : List Int} {F : Nat → Int} {n q : Nat} (hl : fr.length = n) (hF : ∀ p, p < n → fr[p]? = some (F p)) (hq : q < n) (v d : Int) (hv : v = F q + d) :
    ∃ r, setI fr (q : Int) v = some r ∧ r.length = n ∧ ∀ p, p < n → r[p]? = some (F p + if p = q then d else 0) := by
  refine ⟨fr.set q v, setI_nat (by omega), by simp [hl], fun p hp => ?_⟩
  by_cases e : p = q
  · subst e
    rw [List.getElem?_set_self (by omega), if_pos rfl, hv]
  · rw [List.getElem?_set_ne (fun h => e h.symm), if_neg e, hF p hp, Int.add_zero]

theorem MInv.ext {people : List route_Person} {l : List route_Work} {t t' : route_matcher} (h : MInv people l t) (h' : MInv people l t') (ha : t'.at_ = t.at_) (hx : t'.fixed = t.fixed) : t' = t := by
  have hf : t'.free = t.free := by
    refine List.ext_getElem? fun k => ?_
    by_cases hk : k < people.length
    · rw [h.fr k hk, h'.fr k hk, ha]
    · rw [List.getElem?_eq_none (by rw [h'.lf]; omega), List.getElem?_eq_none (by rw [h.lf]; omega)]
  have h1 := h.pe; have h2 := h.wk; have h3 := h'.pe; have h4 := h'.wk
  cases t; cases t'
  simp only at ha hx hf h1 h2 h3 h4
  subst ha hx hf h1 h2 h3 h4
  rfl

theorem cnt_move {m : Nat} {a : List Int} {k : Nat} {x : Int} (hk : k < m) (hl : a.length = m) (p : Nat) : cnt m (lz (a.set k x)) p + (if lz a k = (p : Int) then 1 else 0) = cnt m (lz a) p + (if x = (p : Int) then 1 else 0) := by
  rw [← cnt_set (lz a) p k x hk]
  have : cnt m (lz (a.set k x)) p = cnt m (fun j => if j = k then x else lz a j) p := cnt_congr fun j hj => by rw [lz_set (by omega)]
  rw [this]

theorem move_val {people : List route_Person} {l : List route_Work} (hd : Desk people l) {t : route_matcher} (h : MInv people l t) {k : Nat} (hk : k < l.length) {x : Int}
    (hx : x = -1 ∨ ∃ q, q < people.length ∧ x = (q : Int) ∧ abB people l q k = true ∧ (cnt l.length (lz t.at_) q : Int) < capI people q + (if lz t.at_ k = (q : Int) then 1 else 0)) :
    ∃ t', route_matcher_move t (k : Int) x = some t' ∧ MInv people l t' ∧ t'.at_ = t.at_.set k x ∧ t'.fixed = t.fixed := by
  have hnl := hd.nl
  unfold route_matcher_move
  have hla := h.la
  have hk' : k < t.at_.length := by omega
  rw [lz_idx hk', Option.bind_some]
  -- the first: room again
  obtain ⟨f1, e1, l1, g1⟩ : ∃ f1, (if (decide ((0 : Int) ≤ lz t.at_ k)) = true then Option.bind (idx t.free (lz t.at_ k)) fun x39 => Option.bind (setI t.free (lz t.at_ k) (w64 (x39 + 1))) fun x51 => some (⟨t.people, t.work, t.at_, x51, t.fixed⟩ : route_matcher) else some t) = some ⟨t.people, t.work, t.at_, f1, t.fixed⟩ ∧ f1.length = people.length ∧ ∀ p, p < people.length → f1[p]? = some (capI people p - (cnt l.length (lz t.at_) p : Int) + (if lz t.at_ k = (p : Int) then 1 else 0)) := by
    rcases h.rg k hk with e | ⟨q, hq, e, _⟩
    · rw [if_neg (by rw [e]; decide)]
      refine ⟨t.free, rfl, h.lf, fun p hp => ?_⟩
      rw [h.fr p hp, if_neg (by omega), Int.add_zero]
    · rw [if_pos (by rw [e]; simp), e, idx_nat, h.fr q hq, Option.bind_some]
      have hc := hd.cap q hq
      have hc2 := cnt_le l.length (lz t.at_) q
      have ew : w64 (capI people q - (cnt l.length (lz t.at_) q : Int) + 1) = capI people q - (cnt l.length (lz t.at_) q : Int) + 1 := w64_id (by omega) (by omega)
      obtain ⟨r, r1, r2, r3⟩ := bump_val h.lf h.fr hq _ 1 ew
      rw [r1, Option.bind_some]
      refine ⟨r, rfl, r2, fun p hp => ?_⟩
      rw [r3 p hp]
      by_cases ep : p = q
      · subst ep; rw [if_pos rfl, if_pos rfl]
      · rw [if_neg ep, if_neg (by omega)]
  rw [e1, Option.bind_some]
  simp only
  rw [lz_idx hk', Option.bind_some, setI_nat hk', Option.bind_some]
  have hcm := fun p => cnt_move (a := t.at_) (x := x) hk hla p
  have mk : ∀ f2 : List Int, f2.length = people.length → (∀ p, p < people.length → f2[p]? = some (capI people p - (cnt l.length (lz t.at_) p : Int) + (if lz t.at_ k = (p : Int) then 1 else 0) - (if x = (p : Int) then 1 else 0))) → MInv people l ⟨t.people, t.work, t.at_.set k x, f2, t.fixed⟩ := by
    intro f2 q1 q2
    refine ⟨h.pe, h.wk, by simp [hla], q1, h.lx, fun j hj => ?_, fun p hp => ?_, fun p hp => ?_⟩
    · simp only
      rw [lz_set hk']
      by_cases e : j = k
      · subst e
        rw [if_pos rfl]
        rcases hx with hx | ⟨q, hx1, hx2, hx3, _⟩
        · exact .inl hx
        · exact .inr ⟨q, hx1, hx2, hx3⟩
      · rw [if_neg e]; exact h.rg j hj
    · simp only
      rw [q2 p hp]
      have := hcm p
      congr 1
      split at this <;> split at this <;> simp_all <;> omega
    · simp only
      have h1 := hcm p
      have h2 := h.rm p hp
      rcases hx with hx | ⟨q, hx1, hx2, hx3, hx4⟩
      · rw [if_neg (show ¬ x = (p : Int) by omega)] at h1
        omega
      · by_cases ep : p = q
        · subst ep
          rw [if_pos hx2] at h1
          split at hx4 <;> split at h1 <;> omega
        · rw [if_neg (show ¬ x = (p : Int) by omega)] at h1
          omega
  by_cases hx0 : 0 ≤ x
  · obtain ⟨q, hx1, hx2, hx3, hx4⟩ : ∃ q, q < people.length ∧ x = (q : Int) ∧ abB people l q k = true ∧ (cnt l.length (lz t.at_) q : Int) < capI people q + (if lz t.at_ k = (q : Int) then 1 else 0) := by
      rcases hx with hx | hx
      · omega
      · exact hx
    rw [if_pos (by simpa using hx0)]
    have hg := g1 q hx1
    have hc := hd.cap q hx1
    have hc2 := cnt_le l.length (lz t.at_) q
    rw [hx2, idx_nat, hg, Option.bind_some]
    have ew : w64 (capI people q - (cnt l.length (lz t.at_) q : Int) + (if lz t.at_ k = (q : Int) then 1 else 0) - 1) = capI people q - (cnt l.length (lz t.at_) q : Int) + (if lz t.at_ k = (q : Int) then 1 else 0) + (-1) := by
      split <;> rw [w64_id (by omega) (by omega)] <;> omega
    obtain ⟨r, r1, r2, r3⟩ := bump_val l1 g1 hx1 _ (-1) ew
    rw [r1, Option.bind_some, Option.bind_some]
    have hm := mk r r2 (fun p hp => by
      rw [r3 p hp]
      congr 1
      by_cases ep : p = q
      · subst ep; rw [if_pos rfl, if_pos hx2]; omega
      · rw [if_neg ep, if_neg (show ¬ x = (p : Int) by omega)]; omega)
    rw [hx2] at hm
    exact ⟨_, rfl, hm, rfl, rfl⟩
  · rw [if_neg (by simpa using hx0), Option.bind_some]
    exact ⟨_, rfl, mk f1 l1 (fun p hp => by
      rw [g1 p hp]
      congr 1
      rw [if_neg (show ¬ x = (p : Int) by omega)]; omega), rfl, rfl⟩

/-- tried -/
def sn (s : List Bool) (q : Nat) : Prop := s[q]? = some true
instance (s : List Bool) : DecidablePred (sn s) := fun q => inferInstanceAs (Decidable (s[q]? = some true))
def uns (n : Nat) (s : List Bool) : Nat := sumN n fun q => if s[q]? = some true then 0 else 1
theorem uns_le {n : Nat} {s s' : List Bool} (h : ∀ q, sn s q → sn s' q) : uns n s' ≤ uns n s := sumN_le fun q _ => by
  by_cases e : s[q]? = some true
  · rw [if_pos e, if_pos (show s'[q]? = some true from h q e)]; exact Nat.le_refl _
  · rw [if_neg e]; split <;> omega
theorem uns_set {n : Nat} {s : List Bool} {p : Nat} (hp : p < n) (hl : s.length = n) (h : ¬ sn s p) : uns n (s.set p true) < uns n s := by
  refine sumN_lt (j := p) (fun q _ => ?_) hp ?_
  · by_cases e : q = p
    · subst e; rw [List.getElem?_set_self (by omega)]; simp
    · rw [List.getElem?_set_ne (fun h => e h.symm)]; exact Nat.le_refl _
  · rw [List.getElem?_set_self (by omega), if_neg (show ¬ s[p]? = some true from h)]; simp
theorem sn_set {s : List Bool} {p : Nat} (hp : p < s.length) (q : Nat) : sn (s.set p true) q ↔ q = p ∨ sn s q := by
  unfold sn
  by_cases e : q = p
  · subst e; rw [List.getElem?_set_self hp]; simp
  · rw [List.getElem?_set_ne (fun h => e h.symm)]; simp [e]

/-- all that were tried since are full, and what they have must stay with those that were tried -/
def Clo (people : List route_Person) (l : List route_Work) (t : route_matcher) (s0 s1 : List Bool) : Prop :=
  ∀ q, q < people.length → sn s1 q → ¬ sn s0 q → capI people q ≤ (cnt l.length (lz t.at_) q : Int) ∧ ∀ k, k < l.length → lz t.at_ k = (q : Int) → t.fixed[k]? = some false → ∀ q', q' < people.length → abB people l q' k = true → sn s1 q'
theorem Clo.trans {people : List route_Person} {l : List route_Work} {t : route_matcher} {s0 s1 s2 : List Bool} (h1 : Clo people l t s0 s1) (h2 : Clo people l t s1 s2) (hm : ∀ q, sn s1 q → sn s2 q) : Clo people l t s0 s2 := fun q hq a b => by
  by_cases h : sn s1 q
  · exact ⟨(h1 q hq h b).1, fun k hk e f q' hq' g => hm q' ((h1 q hq h b).2 k hk e f q' hq' g)⟩
  · exact h2 q hq a h

structure Succ (people : List route_Person) (l : List route_Work) (t t' : route_matcher) (p : Nat) (S : Nat → Prop) : Prop where
  inv : MInv people l t'
  fix : t'.fixed = t.fixed
  room : (cnt l.length (lz t'.at_) p : Int) < capI people p
  none_ : ∀ k, k < l.length → (lz t'.at_ k = -1 ↔ lz t.at_ k = -1)
  stay : ∀ k, k < l.length → t.fixed[k]? = some true → lz t'.at_ k = lz t.at_ k
  old : ∀ k, k < l.length → ∀ q, q < people.length → lz t.at_ k = (q : Int) → S q → lz t'.at_ k = (q : Int)

/-- what a search says -/
def Says (people : List route_Person) (l : List route_Work) (R : route_matcher → Int → List Bool → Option (Bool × route_matcher × List Bool)) (N : Nat) : Prop :=
  ∀ (t : route_matcher) (p : Nat) (s : List Bool), MInv people l t → p < people.length → s.length = people.length → uns people.length s < N →
    ∃ b t' s', R t (p : Int) s = some (b, t', s') ∧ s'.length = people.length ∧ (∀ q, sn s q → sn s' q) ∧
      (b = false → t' = t ∧ capI people p ≤ (cnt l.length (lz t.at_) p : Int) ∧ sn s' p ∧ Clo people l t s s') ∧ (b = true → Succ people l t t' p (sn s))

theorem clear_inner {people : List route_Person} {l : List route_Work} (hd : Desk people l) {REC : route_matcher → Int → List Bool → Option (Bool × route_matcher × List Bool)} {N : Nat} (ih : Says people l REC N) {t : route_matcher} (h : MInv people l t) {p k : Nat} (hp : p < people.length) (hk : k < l.length) (hat : lz t.at_ k = (p : Int)) (hfx : t.fixed[k]? = some false)
    {s0 : List Bool} (hl0 : s0.length = people.length) (hsp : sn s0 p) (hu : uns people.length s0 < N) :
    ∃ o, rangeB (R := Bool × route_matcher × List Bool) (fun k108 s124 => Option.bind (if ((k108 : Int) == (p : Int)) = true then some (true, s124.1, s124.2) else (Option.bind (idx s124.2 (k108 : Int)) fun x231 => if x231 = true then some (true, s124.1, s124.2) else (Option.bind (idx s124.1.people (k108 : Int)) fun x261 => Option.bind (idx s124.1.work (k : Int)) fun x268 => Option.bind (route_Person_able x261 x268.needs) fun x276 => if (!x276) = true then (some (true, s124.1, s124.2)) else (Option.bind (REC s124.1 (k108 : Int) s124.2) fun x285 => some (!x285.1, x285.2.1, x285.2.2))))) fun s148 => if s148.1 = true then some (.nx (s148.2.1, s148.2.2)) else Option.bind (route_matcher_move s148.2.1 (k : Int) (k108 : Int)) fun x303 => some (.rt (true, x303, s148.2.2))) people.length 0 (t, s0) = some o ∧
      ((∃ s', o = .fin (t, s') ∧ s'.length = people.length ∧ (∀ q, sn s0 q → sn s' q) ∧ Clo people l t s0 s' ∧ ∀ q, q < people.length → abB people l q k = true → sn s' q) ∨
        ∃ t' s', o = .rt (true, t', s') ∧ s'.length = people.length ∧ (∀ q, sn s0 q → sn s' q) ∧ Succ people l t t' p (fun q => sn s0 q ∧ q ≠ p)) := by
  refine rangeB_spec people.length (fun i s => s.1 = t ∧ s.2.length = people.length ∧ (∀ q, sn s0 q → sn s.2 q) ∧ Clo people l t s0 s.2 ∧ ∀ q, q < i → abB people l q k = true → sn s.2 q) _ ⟨rfl, hl0, fun _ h => h, fun q _ a b => absurd a b, fun q hq => by omega⟩ ?_ ?_
  · rintro i ⟨t1, s⟩ hi ⟨rfl, i2, i3, i4, i5⟩
    simp only at i2 i3 i4 i5 ⊢
    replace h : MInv people l t1 := h
    replace hat : lz t1.at_ k = (p : Int) := hat
    replace hfx : t1.fixed[k]? = some false := hfx
    by_cases e : i = p
    · subst e
      rw [if_pos (by simp), Option.bind_some, if_pos rfl]
      refine ⟨_, rfl, rfl, i2, i3, i4, fun q hq ha => ?_⟩
      by_cases e : q = i
      · subst e; exact i3 q hsp
      · exact i5 q (by omega) ha
    rw [if_neg (by simp; omega)]
    have his : i < s.length := by omega
    rw [idx_lt s i his, Option.bind_some]
    by_cases hs : s[i] = true
    · rw [if_pos hs, Option.bind_some, if_pos rfl]
      refine ⟨_, rfl, rfl, i2, i3, i4, fun q hq ha => ?_⟩
      by_cases e : q = i
      · subst e; unfold sn; rw [List.getElem?_eq_getElem his, hs]
      · exact i5 q (by omega) ha
    rw [if_neg hs, h.pe, h.wk, idx_lt people i hi, Option.bind_some, idx_lt l k hk, Option.bind_some, (ab_val hi hk).1, Option.bind_some]
    cases hab : abB people l i k with
    | false =>
      rw [if_pos (by decide), Option.bind_some, if_pos rfl]
      refine ⟨_, rfl, rfl, i2, i3, i4, fun q hq ha => ?_⟩
      by_cases e : q = i
      · subst e; rw [hab] at ha; cases ha
      · exact i5 q (by omega) ha
    | true =>
      rw [if_neg (by decide)]
      obtain ⟨b, t', s', r1, r2, r3, r4, r5⟩ := ih t1 i s h hi i2 (Nat.lt_of_le_of_lt (uns_le i3) hu)
      rw [r1, Option.bind_some, Option.bind_some]
      cases b with
      | false =>
        obtain ⟨rfl, _, q2, q3⟩ := r4 rfl
        simp only [Bool.not_false, if_true]
        refine ⟨_, rfl, rfl, r2, fun q hq => r3 q (i3 q hq), i4.trans q3 r3, fun q hq ha => ?_⟩
        by_cases e : q = i
        · subst e; exact q2
        · exact r3 q (i5 q (by omega) ha)
      | true =>
        simp only [Bool.not_true, Bool.false_eq_true, if_false]
        have q := r5 rfl
        have hatk : lz t'.at_ k = (p : Int) := q.old k hk p hp hat (i3 p hsp)
        obtain ⟨t2, m1, m2, m3, m4⟩ := move_val hd q.inv hk (x := (i : Int)) (.inr ⟨i, hi, rfl, hab, by rw [if_neg (by omega)]; have := q.room; omega⟩)
        simp only [m1, Option.bind_some]
        refine ⟨_, rfl, .inr ⟨t2, s', rfl, r2, fun q hq => r3 q (i3 q hq), m2, m4.trans q.fix, ?_, fun j hj => ?_, fun j hj hf => ?_, fun j hj q' hq' hj' hs' => ?_⟩⟩
        · rw [m3]
          have h1 := cnt_move (a := t'.at_) (x := (i : Int)) hk q.inv.la p
          rw [if_pos hatk, if_neg (show ¬ (i : Int) = (p : Int) by omega)] at h1
          have h2 := q.inv.rm p hp
          omega
        · rw [m3, lz_set (by rw [q.inv.la]; exact hk)]
          by_cases ej : j = k
          · subst ej
            rw [if_pos rfl]
            constructor <;> intro h' <;> omega
          · rw [if_neg ej]; exact q.none_ j hj
        · rw [m3, lz_set (by rw [q.inv.la]; exact hk)]
          by_cases ej : j = k
          · subst ej; rw [hfx] at hf; cases hf
          · rw [if_neg ej]; exact q.stay j hj hf
        · rw [m3, lz_set (by rw [q.inv.la]; exact hk)]
          by_cases ej : j = k
          · subst ej; exact absurd (show q' = p by omega) hs'.2
          · rw [if_neg ej]; exact q.old j hj q' hq' hj' (i3 q' hs'.1)
  · rintro ⟨t1, s⟩ ⟨rfl, i2, i3, i4, i5⟩
    exact .inl ⟨s, rfl, i2, i3, i4, fun q hq ha => i5 q hq ha⟩

theorem clear_says {people : List route_Person} {l : List route_Work} (hd : Desk people l) : ∀ N, Says people l (route_matcher_clearN N) N := by
  intro N
  induction N with
  | zero => intro t p s _ _ _ h; omega
  | succ N ih =>
    intro t p s h hp hl hu
    show ∃ b t' s', route_matcher_clearF (route_matcher_clearN N) t (p : Int) s = some (b, t', s') ∧ _
    unfold route_matcher_clearF
    rw [idx_nat, h.fr p hp, Option.bind_some]
    by_cases hf : 0 < capI people p - (cnt l.length (lz t.at_) p : Int)
    · rw [if_pos (by simpa using hf)]
      exact ⟨true, t, s, rfl, hl, fun _ h => h, (fun h => by cases h), fun _ => ⟨h, rfl, by omega, fun _ _ => Iff.rfl, fun _ _ _ => rfl, fun _ _ _ _ e _ => e⟩⟩
    rw [if_neg (by simpa using hf)]
    have hps : p < s.length := by omega
    rw [idx_lt s p hps, Option.bind_some]
    by_cases hs : s[p] = true
    · rw [if_pos hs]
      exact ⟨false, t, s, rfl, hl, fun _ h => h, fun _ => ⟨rfl, by omega, by unfold sn; rw [List.getElem?_eq_getElem hps, hs], fun q _ a b => absurd a b⟩, (fun h => by cases h)⟩
    rw [if_neg hs, setI_nat hps, Option.bind_some]
    have hns : ¬ sn s p := by unfold sn; rw [List.getElem?_eq_getElem hps]; simpa using hs
    have hl1 : (s.set p true).length = people.length := by simp [hl]
    have hset := sn_set (s := s) hps
    have hu1 := uns_set hp hl hns
    obtain ⟨o, ho, hq⟩ := rangeB_spec (R := Bool × route_matcher × List Bool) (body := fun k34 s50 => Option.bind (α := Lp _ _) (Option.bind (idx s50.1.at_ (k34 : Int)) fun x91 => Option.bind (if (x91 != (p : Int)) = true then (some true) else (Option.bind (idx s50.1.fixed (k34 : Int)) fun x98 => some x98)) fun s97 => if s97 = true then some (.fin (s50.1, s50.2)) else Option.bind (rangeB (fun k108 s124 => Option.bind (if ((k108 : Int) == (p : Int)) = true then (if true = true then (if true = true then (some (true, s124.1, s124.2)) else (Option.bind (route_matcher_clearN N s124.1 (k108 : Int) s124.2) fun x175 => some (!x175.1, x175.2.1, x175.2.2))) else (Option.bind (idx s124.1.people (k108 : Int)) fun x191 => Option.bind (idx s124.1.work (k34 : Int)) fun x198 => Option.bind (route_Person_able x191 x198.needs) fun x206 => if (!x206) = true then (some (true, s124.1, s124.2)) else (Option.bind (route_matcher_clearN N s124.1 (k108 : Int) s124.2) fun x215 => some (!x215.1, x215.2.1, x215.2.2)))) else (Option.bind (idx s124.2 (k108 : Int)) fun x231 => if x231 = true then (if true = true then (some (true, s124.1, s124.2)) else (Option.bind (route_matcher_clearN N s124.1 (k108 : Int) s124.2) fun x245 => some (!x245.1, x245.2.1, x245.2.2))) else (Option.bind (idx s124.1.people (k108 : Int)) fun x261 => Option.bind (idx s124.1.work (k34 : Int)) fun x268 => Option.bind (route_Person_able x261 x268.needs) fun x276 => if (!x276) = true then (some (true, s124.1, s124.2)) else (Option.bind (route_matcher_clearN N s124.1 (k108 : Int) s124.2) fun x285 => some (!x285.1, x285.2.1, x285.2.2))))) fun s148 => if s148.1 = true then some (.nx (s148.2.1, s148.2.2)) else Option.bind (route_matcher_move s148.2.1 (k34 : Int) (k108 : Int)) fun x303 => some (.rt (true, x303, s148.2.2))) s50.1.people.length 0 (s50.1, s50.2)) fun o105 => o105.andThen (fun y => some (.rt y)) fun s106 => some (.fin (s106.1, s106.2))) fun o73 => o73.andThen (fun y => some (.rt y)) fun s74 => some (.nx (s74.1, s74.2)))
      t.at_.length (fun k x => x.1 = t ∧ x.2.length = people.length ∧ (∀ q, sn (s.set p true) q → sn x.2 q) ∧ Clo people l t (s.set p true) x.2 ∧ ∀ k', k' < k → lz t.at_ k' = (p : Int) → t.fixed[k']? = some false → ∀ q', q' < people.length → abB people l q' k' = true → sn x.2 q')
      (fun o => (∃ s', o = .fin (t, s') ∧ s'.length = people.length ∧ (∀ q, sn (s.set p true) q → sn s' q) ∧ Clo people l t (s.set p true) s' ∧ ∀ k', k' < l.length → lz t.at_ k' = (p : Int) → t.fixed[k']? = some false → ∀ q', q' < people.length → abB people l q' k' = true → sn s' q') ∨ ∃ t' s', o = .rt (true, t', s') ∧ s'.length = people.length ∧ (∀ q, sn s q → sn s' q) ∧ Succ people l t t' p (sn s))
      (s := (t, s.set p true)) ⟨rfl, hl1, fun _ h => h, fun q _ a b => absurd a b, fun k' hk' => by omega⟩ (by
        rintro k ⟨t1, s1⟩ hk ⟨rfl, i2, i3, i4, i5⟩
        simp only [if_true] at i2 i3 i4 i5 ⊢
        replace h : MInv people l t1 := h
        have hkl : k < l.length := by rw [h.la] at hk; exact hk
        rw [lz_idx hk, Option.bind_some]
        by_cases e : lz t1.at_ k = (p : Int)
        rotate_left
        · rw [if_pos (by simpa using e), Option.bind_some, if_pos rfl, Option.bind_some, Lp.andThen_fin]
          refine ⟨_, rfl, rfl, i2, i3, i4, fun k' hk' a b => ?_⟩
          by_cases ek : k' = k
          · subst ek; exact absurd a e
          · exact i5 k' (by omega) a b
        rw [if_neg (by simpa using e)]
        have hkx : k < t1.fixed.length := by rw [h.lx]; exact hkl
        rw [idx_lt _ k hkx, Option.bind_some, Option.bind_some]
        by_cases hfx : t1.fixed[k] = true
        · rw [if_pos hfx, Option.bind_some, Lp.andThen_fin]
          refine ⟨_, rfl, rfl, i2, i3, i4, fun k' hk' a b => ?_⟩
          by_cases ek : k' = k
          · subst ek; rw [List.getElem?_eq_getElem hkx, hfx] at b; cases b
          · exact i5 k' (by omega) a b
        rw [if_neg hfx, h.pe]
        have hfx' : t1.fixed[k]? = some false := by rw [List.getElem?_eq_getElem hkx]; simpa using hfx
        have hsp1 : sn s1 p := i3 p ((hset p).2 (.inl rfl))
        obtain ⟨o, ho, hc⟩ := clear_inner hd ih h hp hkl e hfx' i2 hsp1 (Nat.lt_of_le_of_lt (uns_le i3) (by omega))
        rw [ho, Option.bind_some]
        rcases hc with ⟨s', rfl, c1, c2, c3, c4⟩ | ⟨t', s', rfl, c1, c2, c3⟩
        · rw [Lp.andThen_fin, Option.bind_some, Lp.andThen_fin]
          refine ⟨_, rfl, rfl, c1, fun q hq => c2 q (i3 q hq), i4.trans c3 c2, fun k' hk' a b q' hq' ha => ?_⟩
          by_cases ek : k' = k
          · subst ek; exact c4 q' hq' ha
          · exact c2 q' (i5 k' (by omega) a b q' hq' ha)
        · rw [Lp.andThen_rt, Option.bind_some, Lp.andThen_rt]
          refine ⟨_, rfl, .inr ⟨t', s', rfl, c1, fun q hq => c2 q (i3 q ((hset q).2 (.inr hq))), c3.inv, c3.fix, c3.room, c3.none_, c3.stay, fun k' hk' q hq a b => c3.old k' hk' q hq a ⟨i3 q ((hset q).2 (.inr b)), fun e => ?_⟩⟩⟩
          subst e; exact hns b)
      (by
        rintro ⟨t1, s1⟩ ⟨rfl, i2, i3, i4, i5⟩
        exact .inl ⟨s1, rfl, i2, i3, i4, fun k' hk' => i5 k' (by rw [h.la]; exact hk')⟩)
    rw [ho, Option.bind_some]
    rcases hq with ⟨s', rfl, c1, c2, c3, c4⟩ | ⟨t', s', rfl, c1, c2, c3⟩
    · rw [Lp.andThen_fin]
      refine ⟨false, t, s', rfl, c1, fun q hq => c2 q ((hset q).2 (.inr hq)), fun _ => ⟨rfl, by omega, c2 p ((hset p).2 (.inl rfl)), fun q hq a b => ?_⟩, (fun h => by cases h)⟩
      by_cases e : q = p
      · subst e; exact ⟨by omega, c4⟩
      · exact c3 q hq a fun h' => ((hset q).1 h').elim e b
    · rw [Lp.andThen_rt]
      exact ⟨true, t', s', rfl, c1, c2, fun h => by (cases h), fun _ => c3⟩
end Go.Proofs.YtgmenjhmnjhgoaaDoor.M
