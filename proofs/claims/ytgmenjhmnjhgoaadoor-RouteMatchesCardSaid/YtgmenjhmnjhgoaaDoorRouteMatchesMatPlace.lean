/-
  The document's matching: a place for a work, by moving others.
-/
import Derived.Test.YtgmenjhmnjhgoaaDoorRouteMatchesMatTake
namespace Go.Proofs.YtgmenjhmnjhgoaaDoor.M
open Go Go.Pu
set_option linter.unusedSimpArgs false
set_option linter.unusedVariables false

theorem flat_set {has : List (List Int)} {k : Nat} {r r' : List Int} (hk : has[k]? = some r) (x y : Int) (h : (y :: r').Perm (x :: r)) : (y :: (has.set k r').flatten).Perm (x :: has.flatten) := by
  induction has generalizing k with
  | nil => simp at hk
  | cons a l ih =>
    cases k with
    | zero =>
      simp only [List.getElem?_cons_zero, Option.some.injEq] at hk
      subst hk
      simp only [List.set_cons_zero, List.flatten_cons]
      exact h.append_right _
    | succ k =>
      simp only [List.getElem?_cons_succ] at hk
      simp only [List.set_cons_succ, List.flatten_cons]
      refine (List.perm_middle.symm).trans (List.Perm.trans ?_ List.perm_middle)
      exact List.Perm.append_left _ (ih hk)
theorem set_perm {r : List Int} {j : Nat} {v w : Int} (h : r[j]? = some v) : (v :: r.set j w).Perm (w :: r) := by
  induction r generalizing j with
  | nil => simp at h
  | cons a l ih =>
    cases j with
    | zero =>
      simp only [List.getElem?_cons_zero, Option.some.injEq] at h
      subst h
      exact List.Perm.swap _ _ _
    | succ j =>
      simp only [List.getElem?_cons_succ] at h
      simp only [List.set_cons_succ]
      exact (List.Perm.swap _ _ _).trans (((ih h).cons a).trans (List.Perm.swap _ _ _))

structure PInv (people : List route_Person) (l : List route_Work) (room : List Int) (has : List (List Int)) : Prop where
  lr : room.length = people.length
  lh : has.length = people.length
  rb : ∀ (p : Nat) (m : Int), room[p]? = some m → m ≤ 100
  le : ∀ (p : Nat) (r : List Int) (m : Int), has[p]? = some r → room[p]? = some m → (r.length : Int) ≤ m
  mem : ∀ (p : Nat) (r : List Int), has[p]? = some r → ∀ x ∈ r, ∃ k, k < l.length ∧ x = (k : Int) ∧ abB people l p k = true

/-- all that were tried since are full, and what they have must stay with those that were tried, or with those without room -/
def CloP (people : List route_Person) (l : List route_Work) (room : List Int) (has : List (List Int)) (s0 s1 : List Bool) : Prop :=
  ∀ q, q < people.length → sn s1 q → ¬ sn s0 q → (∃ r, has[q]? = some r ∧ room[q]? = some (r.length : Int)) ∧ ∀ r, has[q]? = some r → ∀ x ∈ r, ∀ k : Nat, x = (k : Int) → ∀ q', q' < people.length → abB people l q' k = true → (∃ m, room[q']? = some m ∧ 0 < m) → sn s1 q'
theorem CloP.trans {people : List route_Person} {l : List route_Work} {room : List Int} {has : List (List Int)} {s0 s1 s2 : List Bool} (h1 : CloP people l room has s0 s1) (h2 : CloP people l room has s1 s2) (hm : ∀ q, sn s1 q → sn s2 q) : CloP people l room has s0 s2 := fun q hq a b => by
  by_cases h : sn s1 q
  · exact ⟨(h1 q hq h b).1, fun r hr x hx k e q' hq' g m => hm q' ((h1 q hq h b).2 r hr x hx k e q' hq' g m)⟩
  · exact h2 q hq a h

def SaysP (people : List route_Person) (l : List route_Work) (R : Int → List Bool → List route_Person → List Int → List route_Work → List (List Int) → Option (Bool × List Bool × List (List Int))) (N : Nat) : Prop :=
  ∀ (w : Nat) (s : List Bool) (room : List Int) (has : List (List Int)), w < l.length → s.length = people.length → PInv people l room has → uns people.length s < N →
    ∃ b s' has', R (w : Int) s people room l has = some (b, s', has') ∧ s'.length = people.length ∧ (∀ q, sn s q → sn s' q) ∧
      (b = false → has' = has ∧ CloP people l room has s s' ∧ ∀ q, q < people.length → abB people l q w = true → (∃ m, room[q]? = some m ∧ 0 < m) → sn s' q) ∧
      (b = true → PInv people l room has' ∧ (has'.flatten).Perm ((w : Int) :: has.flatten) ∧ ∀ q, sn s q → has'[q]? = has[q]?)

theorem PInv.set {people : List route_Person} {l : List route_Work} {room : List Int} {has : List (List Int)} (h : PInv people l room has) {p : Nat} {r : List Int} (hp : p < people.length) (h1 : ∀ m, room[p]? = some m → (r.length : Int) ≤ m) (h2 : ∀ x ∈ r, ∃ k, k < l.length ∧ x = (k : Int) ∧ abB people l p k = true) : PInv people l room (has.set p r) := by
  refine ⟨h.lr, by simp [h.lh], h.rb, fun q r' m hr hm => ?_, fun q r' hr => ?_⟩
  · by_cases e : q = p
    · subst e
      rw [List.getElem?_set_self (by rw [h.lh]; exact hp)] at hr
      obtain rfl := Option.some.inj hr
      exact h1 m hm
    · rw [List.getElem?_set_ne (fun h => e h.symm)] at hr
      exact h.le q r' m hr hm
  · by_cases e : q = p
    · subst e
      rw [List.getElem?_set_self (by rw [h.lh]; exact hp)] at hr
      obtain rfl := Option.some.inj hr
      exact h2
    · rw [List.getElem?_set_ne (fun h => e h.symm)] at hr
      exact h.mem q r' hr

theorem row_mem {has : List (List Int)} {k : Nat} {r : List Int} (h : has[k]? = some r) {has' : List (List Int)} (h' : has'[k]? = has[k]?) : has'[k]? = some r := h'.trans h

theorem place_inner {people : List route_Person} {l : List route_Work} (hd : Desk people l) {REC : Int → List Bool → List route_Person → List Int → List route_Work → List (List Int) → Option (Bool × List Bool × List (List Int))} {N : Nat} (ih : SaysP people l REC N) {w k : Nat} (hw : w < l.length) (hk : k < people.length) (hab : abB people l k w = true) {room : List Int} {has : List (List Int)} (h : PInv people l room has) {r : List Int} (hr : has[k]? = some r)
    {s0 : List Bool} (hl0 : s0.length = people.length) (hsk : sn s0 k) (hu : uns people.length s0 < N) :
    ∃ o, rangeB (R := Bool × List Bool × List (List Int)) (fun k170 s171 => Option.bind (idx s171.1 (k : Int)) fun x185 => Option.bind (idx x185 (k170 : Int)) fun x186 => Option.bind (REC x186 s171.2 people room l s171.1) fun x192 => if x192.1 = true then Option.bind (idx x192.2.2 (k : Int)) fun x201 => Option.bind (setI x201 (k170 : Int) (w : Int)) fun x208 => Option.bind (setI x192.2.2 (k : Int) x208) fun x218 => some (.rt (true, x192.2.1, x218)) else some (.nx (x192.2.2, x192.2.1))) r.length 0 (has, s0) = some o ∧
      ((∃ s', o = .fin (has, s') ∧ s'.length = people.length ∧ (∀ q, sn s0 q → sn s' q) ∧ CloP people l room has s0 s' ∧ ∀ x ∈ r, ∀ j : Nat, x = (j : Int) → ∀ q, q < people.length → abB people l q j = true → (∃ m, room[q]? = some m ∧ 0 < m) → sn s' q) ∨
        ∃ s' has', o = .rt (true, s', has') ∧ s'.length = people.length ∧ (∀ q, sn s0 q → sn s' q) ∧ PInv people l room has' ∧ (has'.flatten).Perm ((w : Int) :: has.flatten) ∧ ∀ q, sn s0 q → q ≠ k → has'[q]? = has[q]?) := by
  refine rangeB_spec r.length (fun i s => s.1 = has ∧ s.2.length = people.length ∧ (∀ q, sn s0 q → sn s.2 q) ∧ CloP people l room has s0 s.2 ∧ ∀ i', i' < i → ∀ x, r[i']? = some x → ∀ j : Nat, x = (j : Int) → ∀ q, q < people.length → abB people l q j = true → (∃ m, room[q]? = some m ∧ 0 < m) → sn s.2 q) _ ⟨rfl, hl0, fun _ h => h, fun q _ a b => absurd a b, fun i' hi' => by omega⟩ ?_ ?_
  · rintro i ⟨t1, s⟩ hi ⟨rfl, i2, i3, i4, i5⟩
    simp only at i2 i3 i4 i5 ⊢
    replace h : PInv people l room t1 := h
    replace hr : t1[k]? = some r := hr
    rw [idx_nat, hr, Option.bind_some, idx_lt r i hi, Option.bind_some]
    obtain ⟨v, hv, ev, hav⟩ := h.mem k r hr r[i] (List.getElem_mem hi)
    obtain ⟨b, s', has', r1, r2, r3, r4, r5⟩ := ih v s room t1 hv i2 h (Nat.lt_of_le_of_lt (uns_le i3) hu)
    rw [ev, r1, Option.bind_some]
    cases b with
    | false =>
      obtain ⟨rfl, q1, q2⟩ := r4 rfl
      simp only [Bool.false_eq_true, if_false]
      refine ⟨_, rfl, rfl, r2, fun q hq => r3 q (i3 q hq), i4.trans q1 r3, fun i' hi' x hx j ej q hq ha hm => ?_⟩
      by_cases e : i' = i
      · subst e
        rw [List.getElem?_eq_getElem hi] at hx
        have := Option.some.inj hx
        obtain rfl : j = v := by omega
        exact q2 q hq ha hm
      · exact r3 q (i5 i' (by omega) x hx j ej q hq ha hm)
    | true =>
      obtain ⟨q1, q2, q3⟩ := r5 rfl
      have hk' : has'[k]? = some r := (q3 k (i3 k hsk)).trans hr
      have hkl : k < has'.length := by rw [q1.lh]; exact hk
      simp only [if_true, idx_nat, hk', Option.bind_some, setI_nat hi, setI_nat hkl]
      refine ⟨_, rfl, .inr ⟨s', has'.set k (r.set i (w : Int)), rfl, r2, fun q hq => r3 q (i3 q hq), ?_, ?_, fun q hq e => ?_⟩⟩
      · refine q1.set hk (fun m hm => by simpa using q1.le k r m hk' hm) fun x hx => ?_
        rcases List.mem_or_eq_of_mem_set hx with hx | hx
        · exact q1.mem k r hk' x hx
        · exact ⟨w, hw, hx, hab⟩
      · have e1 : r[i]? = some (v : Int) := by rw [List.getElem?_eq_getElem hi, ev]
        have p1 := flat_set hk' (w : Int) (v : Int) (set_perm (w := (w : Int)) e1)
        have p2 : ((v : Int) :: (has'.set k (r.set i (w : Int))).flatten).Perm ((v : Int) :: ((w : Int) :: t1.flatten)) := p1.trans ((q2.cons _).trans (List.Perm.swap _ _ _))
        exact List.Perm.cons_inv p2
      · rw [List.getElem?_set_ne (fun h => e h.symm)]
        exact q3 q (i3 q hq)
  · rintro ⟨t1, s⟩ ⟨rfl, i2, i3, i4, i5⟩
    refine .inl ⟨s, rfl, i2, i3, i4, fun x hx j ej q hq ha hm => ?_⟩
    obtain ⟨i, hi⟩ := List.getElem?_of_mem hx
    exact i5 i (List.getElem?_eq_some_iff.1 hi).1 x hi j ej q hq ha hm

theorem place_says {people : List route_Person} {l : List route_Work} (hd : Desk people l) : ∀ N, SaysP people l (portref2_fits_1N N) N := by
  intro N
  induction N with
  | zero => intro w s room has _ _ _ h; omega
  | succ N ih =>
    intro w s room has hw hl h hu
    have hnp := hd.np
    show ∃ b s' has', portref2_fits_1F (portref2_fits_1N N) (w : Int) s people room l has = some (b, s', has') ∧ _
    unfold portref2_fits_1F
    obtain ⟨o, ho, hq⟩ := rangeB_spec (R := Bool × List Bool × List (List Int)) (body := fun k9 s17 => Option.bind (α := Lp _ _) (Option.bind (idx people (k9 : Int)) fun x42 => Option.bind (idx s17.2 (k9 : Int)) fun x60 => Option.bind (if x60 = true then (some true) else (Option.bind (idx room (k9 : Int)) fun x70 => some (decide (x70 ≤ 0)))) fun s66 => Option.bind (if s66 = true then (some true) else (Option.bind (idx l (w : Int)) fun x82 => Option.bind (portref2_able x42 x82.needs) fun x90 => some (!x90))) fun s75 => if s75 = true then some (.fin (s17.1, s17.2)) else Option.bind (setI s17.2 (k9 : Int) true) fun x100 => Option.bind (idx s17.1 (k9 : Int)) fun x104 => Option.bind (idx room (k9 : Int)) fun x115 => if (decide ((x104.length : Int) < x115)) = true then Option.bind (appendL 17592186044416 x104 ([(w : Int)] : List Int)) fun x140 => Option.bind (setI s17.1 (k9 : Int) x140) fun x150 => some (.rt (true, x100, x150)) else Option.bind (rangeB (fun k170 s171 => Option.bind (idx s171.1 (k9 : Int)) fun x185 => Option.bind (idx x185 (k170 : Int)) fun x186 => Option.bind (portref2_fits_1N N x186 s171.2 people room l s171.1) fun x192 => if x192.1 = true then Option.bind (idx x192.2.2 (k9 : Int)) fun x201 => Option.bind (setI x201 (k170 : Int) (w : Int)) fun x208 => Option.bind (setI x192.2.2 (k9 : Int) x208) fun x218 => some (.rt (true, x192.2.1, x218)) else some (.nx (x192.2.2, x192.2.1))) x104.length 0 (s17.1, x100)) fun o161 => o161.andThen (fun y => some (.rt y)) fun s162 => some (.fin (s162.1, s162.2))) fun o32 => o32.andThen (fun y => some (.rt y)) fun s33 => some (.nx (s33.1, s33.2)))
      people.length (fun i x => x.1 = has ∧ x.2.length = people.length ∧ (∀ q, sn s q → sn x.2 q) ∧ CloP people l room has s x.2 ∧ ∀ q, q < i → abB people l q w = true → (∃ m, room[q]? = some m ∧ 0 < m) → sn x.2 q)
      (fun o => (∃ s', o = .fin (has, s') ∧ s'.length = people.length ∧ (∀ q, sn s q → sn s' q) ∧ CloP people l room has s s' ∧ ∀ q, q < people.length → abB people l q w = true → (∃ m, room[q]? = some m ∧ 0 < m) → sn s' q) ∨ ∃ s' has', o = .rt (true, s', has') ∧ s'.length = people.length ∧ (∀ q, sn s q → sn s' q) ∧ PInv people l room has' ∧ (has'.flatten).Perm ((w : Int) :: has.flatten) ∧ ∀ q, sn s q → has'[q]? = has[q]?)
      (s := (has, s)) ⟨rfl, hl, fun _ h => h, fun q _ a b => absurd a b, fun q hq => by omega⟩ (by
        rintro i ⟨t1, s1⟩ hi ⟨rfl, i2, i3, i4, i5⟩
        simp only at i2 i3 i4 i5 ⊢
        replace h : PInv people l room t1 := h
        have his : i < s1.length := by omega
        have hir : i < room.length := by rw [h.lr]; exact hi
        have hih : i < t1.length := by rw [h.lh]; exact hi
        have stay : ∀ (c : abB people l i w = true → (∃ m, room[i]? = some m ∧ 0 < m) → sn s1 i), ∃ x : Ctl (List (List Int) × List Bool) (Bool × List Bool × List (List Int)), some (.nx (t1, s1)) = some x ∧ match x with
            | .nx s' => s'.1 = t1 ∧ s'.2.length = people.length ∧ (∀ q, sn s q → sn s'.2 q) ∧ CloP people l room t1 s s'.2 ∧ ∀ q, q < i + 1 → abB people l q w = true → (∃ m, room[q]? = some m ∧ 0 < m) → sn s'.2 q
            | .bk s' => False
            | .rt r => False := fun c => ⟨_, rfl, rfl, i2, i3, i4, fun q hq ha hm => by
              by_cases e : q = i
              · subst e; exact c ha hm
              · exact i5 q (by omega) ha hm⟩
        have stay' : ∀ (c : abB people l i w = true → (∃ m, room[i]? = some m ∧ 0 < m) → sn s1 i), ∀ q, q < i + 1 → abB people l q w = true → (∃ m, room[q]? = some m ∧ 0 < m) → sn s1 q := fun c q hq ha hm => by
          by_cases e : q = i
          · subst e; exact c ha hm
          · exact i5 q (by omega) ha hm
        rw [idx_lt people i hi, Option.bind_some, idx_lt s1 i his, Option.bind_some]
        by_cases hs : s1[i] = true
        · simp only [hs, if_true, Option.bind_some, Lp.andThen_fin]
          exact ⟨_, rfl, rfl, i2, i3, i4, stay' fun _ _ => by unfold sn; rw [List.getElem?_eq_getElem his, hs]⟩
        have hs' : s1[i] = false := by simpa using hs
        rw [hs']
        have hroom : room[i]? = some room[i] := List.getElem?_eq_getElem hir
        by_cases hm0 : room[i] ≤ 0
        · simp only [Bool.false_eq_true, if_false, idx_nat, hroom, Option.bind_some, hm0, decide_true, if_true, Lp.andThen_fin]
          refine ⟨_, rfl, rfl, i2, i3, i4, stay' fun _ ⟨m, e, hm⟩ => ?_⟩
          rw [hroom] at e
          have := Option.some.inj e
          omega
        cases hab : abB people l i w with
        | false =>
          simp only [Bool.false_eq_true, if_false, idx_nat, hroom, Option.bind_some, hm0, decide_false, List.getElem?_eq_getElem hw, (ab_val hi hw).2, hab, Bool.not_false, if_true, Lp.andThen_fin]
          refine ⟨_, rfl, rfl, i2, i3, i4, stay' fun ha _ => ?_⟩
          rw [hab] at ha; cases ha
        | true =>
          have hrow : t1[i]? = some t1[i] := List.getElem?_eq_getElem hih
          have hns : ¬ sn s1 i := by unfold sn; rw [List.getElem?_eq_getElem his]; simpa using hs
          have hset := sn_set (s := s1) his
          have hm0' : decide (room[i] ≤ 0) = false := by simpa using hm0
          rw [if_neg (by decide), idx_lt room i hir, Option.bind_some, hm0', Option.bind_some, if_neg (by decide), idx_lt l w hw, Option.bind_some, (ab_val hi hw).2, hab, Option.bind_some, Option.bind_some, if_neg (by decide), setI_nat his, Option.bind_some, idx_lt t1 i hih, Option.bind_some, Option.bind_some]
          have hle := h.le i _ _ hrow hroom
          by_cases hlt : (t1[i].length : Int) < room[i]
          · rw [if_pos (by simpa using hlt)]
            have hbig : t1[i].length + 1 ≤ 17592186044416 := by have := h.rb i _ hroom; omega
            have happ : appendL 17592186044416 t1[i] ([(w : Int)] : List Int) = some (t1[i] ++ [(w : Int)]) := by
              unfold appendL
              rw [if_pos (by simpa using hbig)]
            rw [happ, Option.bind_some, setI_nat hih, Option.bind_some, Option.bind_some, Lp.andThen_rt]
            refine ⟨_, rfl, .inr ⟨s1.set i true, t1.set i (t1[i] ++ [(w : Int)]), rfl, by simp [i2], fun q hq => (hset q).2 (.inr (i3 q hq)), ?_, ?_, fun q hq => ?_⟩⟩
            · refine h.set hi (fun m hm => ?_) fun x hx => ?_
              · rw [hroom] at hm
                have := Option.some.inj hm
                simp
                omega
              · rcases List.mem_append.1 hx with hx | hx
                · exact h.mem i _ hrow x hx
                · simp at hx; exact ⟨w, hw, hx, hab⟩
            · have p1 := flat_set (r' := t1[i] ++ [(w : Int)]) hrow (w : Int) (0 : Int)
              have p2 : ((0 : Int) :: (t1.set i (t1[i] ++ [(w : Int)])).flatten).Perm ((0 : Int) :: ((w : Int) :: t1.flatten)) := by
                have e : ∀ (L : List (List Int)) (i : Nat) (r : List Int), L[i]? = some r → ((L.set i (r ++ [(w : Int)])).flatten).Perm ((w : Int) :: L.flatten) := by
                  intro L
                  induction L with
                  | nil => intro i r hr; simp at hr
                  | cons a L ihL =>
                    intro i r hr
                    cases i with
                    | zero =>
                      simp only [List.getElem?_cons_zero, Option.some.injEq] at hr
                      subst hr
                      simp only [List.set_cons_zero, List.flatten_cons, List.append_assoc]
                      exact List.perm_middle
                    | succ i =>
                      simp only [List.getElem?_cons_succ] at hr
                      simp only [List.set_cons_succ, List.flatten_cons]
                      exact (List.Perm.append_left _ (ihL i r hr)).trans List.perm_middle
                exact (e t1 i _ hrow).cons _
              exact List.Perm.cons_inv p2
            · rw [List.getElem?_set_ne]
              intro e
              subst e
              exact hns (i3 i hq)
          · rw [if_neg (by simpa using hlt)]
            have hl1 : (s1.set i true).length = people.length := by simp [i2]
            have hu1 : uns people.length (s1.set i true) < N := by
              have := uns_set hi i2 hns
              have := uns_le (n := people.length) i3
              omega
            obtain ⟨o, ho, hc⟩ := place_inner hd ih hw hi hab h hrow hl1 ((hset i).2 (.inl rfl)) hu1
            rw [ho, Option.bind_some]
            rcases hc with ⟨s', rfl, c1, c2, c3, c4⟩ | ⟨s', has', rfl, c1, c2, c3, c4, c5⟩
            · rw [Lp.andThen_fin, Option.bind_some, Lp.andThen_fin]
              refine ⟨_, rfl, rfl, c1, fun q hq => c2 q ((hset q).2 (.inr (i3 q hq))), ?_, fun q hq ha hm => ?_⟩
              · refine i4.trans ?_ fun q hq => c2 q ((hset q).2 (.inr hq))
                intro q hq a b
                by_cases e : q = i
                · subst e
                  exact ⟨⟨_, hrow, by rw [hroom]; congr 1; omega⟩, fun r hr x hx j ej q' hq' ha hm => by
                    rw [hrow] at hr
                    obtain rfl := Option.some.inj hr
                    exact c4 x hx j ej q' hq' ha hm⟩
                · exact c3 q hq a fun h' => ((hset q).1 h').elim e b
              · by_cases e : q = i
                · subst e; exact c2 q ((hset q).2 (.inl rfl))
                · exact c2 q ((hset q).2 (.inr (i5 q (by omega) ha hm)))
            · rw [Lp.andThen_rt, Option.bind_some, Lp.andThen_rt]
              refine ⟨_, rfl, .inr ⟨s', has', rfl, c1, fun q hq => c2 q ((hset q).2 (.inr (i3 q hq))), c3, c4, fun q hq => c5 q ((hset q).2 (.inr (i3 q hq))) fun e => ?_⟩⟩
              subst e
              exact hns (i3 q hq))
      (by
        rintro ⟨t1, s1⟩ ⟨rfl, i2, i3, i4, i5⟩
        exact .inl ⟨s1, rfl, i2, i3, i4, i5⟩)
    rw [ho, Option.bind_some]
    rcases hq with ⟨s', rfl, c1, c2, c3, c4⟩ | ⟨s', has', rfl, c1, c2, c3, c4, c5⟩
    · rw [Lp.andThen_fin]
      exact ⟨false, s', has, rfl, c1, c2, fun _ => ⟨rfl, c3, c4⟩, (fun h => by cases h)⟩
    · rw [Lp.andThen_rt]
      exact ⟨true, s', has', rfl, c1, c2, (fun h => by cases h), fun _ => ⟨c3, c4, c5⟩⟩
end Go.Proofs.YtgmenjhmnjhgoaaDoor.M
