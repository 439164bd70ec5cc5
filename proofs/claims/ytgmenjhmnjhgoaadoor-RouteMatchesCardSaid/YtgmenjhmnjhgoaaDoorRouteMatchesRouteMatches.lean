/-
  Match and its reference agree: plain part.
-/
import Derived.Test.YtgmenjhmnjhgoaaDoorRouteMatchesMatFits
namespace Go.Proofs.YtgmenjhmnjhgoaaDoor.M
open Go Go.Pu
set_option linter.unusedSimpArgs false
set_option linter.unusedVariables false

/-- one person more -/
def Asks (people : List route_Person) (l : List route_Work) (t : route_matcher) (j p : Nat) : Prop :=
  abB people l p j = true ∧ Feas (abB people l) (capI people) people.length l.length fun i => if i = j then (p : Int) else reqT t i

structure Sim (people : List route_Person) (l : List route_Work) (t : route_matcher) (fx : List Int) : Prop where
  inv : MInv people l t
  len : fx.length = l.length
  eq : ∀ k, k < l.length → lz fx k = reqT t k

theorem req_rg {people : List route_Person} {l : List route_Work} {t : route_matcher} (h : MInv people l t) {k : Nat} (hk : k < l.length) : reqT t k = -2 ∨ reqT t k = -1 ∨ ∃ q, q < people.length ∧ reqT t k = (q : Int) := by
  unfold reqT
  rcases h.rg k hk with e | ⟨q, hq, e, _⟩
  · rw [if_pos e]; exact .inl rfl
  · rw [if_neg (by omega)]
    split
    · exact .inr (.inr ⟨q, hq, e⟩)
    · exact .inr (.inl rfl)
theorem Sim.set {people : List route_Person} {l : List route_Work} {t : route_matcher} {fx : List Int} (h : Sim people l t fx) {j : Nat} {x : Int} (hj : j < l.length) (hx : x = -2 ∨ x = -1 ∨ ∃ q, q < people.length ∧ x = (q : Int)) : Req people l (fx.set j x) := by
  refine ⟨by simp [h.len], fun k hk => ?_⟩
  rw [lz_set (by rw [h.len]; exact hj)]
  split
  · exact hx
  · rw [h.eq k hk]; exact req_rg h.inv hk

theorem Took.feas {people : List route_Person} {l : List route_Work} {t t' : route_matcher} {j p : Nat} (ht : MInv people l t) (h : Took people l t t' j p) {req : Nat → Int} (hj : j < l.length) (h1 : req j = -1 ∨ req j = (p : Int)) (h2 : ∀ i, i < l.length → i ≠ j → req i = reqT t i) : Feas (abB people l) (capI people) people.length l.length req := by
  refine h.inv.feas (fun k hk e => ?_) (fun k hk e => ?_) fun k hk e => ?_
  · by_cases ek : k = j
    · subst ek; omega
    · rw [h2 k hk ek] at e
      unfold reqT at e
      rw [h.none_ k hk ek]
      by_cases ea : lz t.at_ k = -1
      · exact ea
      · rw [if_neg ea] at e
        rcases ht.rg k hk with h' | ⟨q, _, h', _⟩ <;> split at e <;> omega
  · by_cases ek : k = j
    · subst ek
      rw [h.here]
      omega
    · rw [h2 k hk ek] at e ⊢
      unfold reqT at e ⊢
      by_cases ea : lz t.at_ k = -1
      · rw [if_pos ea] at e; omega
      · rw [if_neg ea] at e ⊢
        by_cases ef : t.fixed[k]? = some true
        · rw [if_pos ef]; exact h.stay k hk ef
        · rw [if_neg ef] at e; omega
  · by_cases ek : k = j
    · subst ek; rw [h.here]; omega
    · rw [h2 k hk ek] at e
      intro e'
      have := (h.none_ k hk ek).1 e'
      unfold reqT at e
      rw [if_pos this] at e
      omega

theorem self_feas {people : List route_Person} {l : List route_Work} {t : route_matcher} (h : MInv people l t) {j q : Nat} (hq : lz t.at_ j = (q : Int)) : Feas (abB people l) (capI people) people.length l.length fun i => if i = j then (q : Int) else reqT t i := by
  refine h.feas (fun k hk e => ?_) (fun k hk e => ?_) fun k hk e => ?_
  · by_cases ek : k = j
    · subst ek; rw [if_pos rfl] at e; omega
    · rw [if_neg ek] at e
      unfold reqT at e
      by_cases ea : lz t.at_ k = -1
      · exact ea
      · rw [if_neg ea] at e
        rcases h.rg k hk with h' | ⟨q, _, h', _⟩ <;> split at e <;> omega
  · by_cases ek : k = j
    · subst ek; rw [if_pos rfl]; exact hq
    · rw [if_neg ek] at e ⊢
      unfold reqT at e ⊢
      by_cases ea : lz t.at_ k = -1
      · rw [if_pos ea] at e; omega
      · rw [if_neg ea] at e ⊢
        by_cases ef : t.fixed[k]? = some true
        · rw [if_pos ef]
        · rw [if_neg ef] at e; omega
  · by_cases ek : k = j
    · subst ek; rw [if_pos rfl] at e; omega
    · rw [if_neg ek] at e
      intro e'
      unfold reqT at e
      rw [if_pos e'] at e
      omega

theorem take_first {people : List route_Person} {l : List route_Work} (hd : Desk people l) {t : route_matcher} (h : MInv people l t) {j : Nat} (hj : j < l.length) (hf : t.fixed[j]? = some false) :
    ∃ t', rangeB (R := Empty) (fun k280 s296 => Option.bind (route_matcher_take s296 (j : Int) (k280 : Int)) fun x319 => if x319.1 = true then some (.bk x319.2) else some (.nx x319.2)) people.length 0 t = some (.fin t') ∧
      ((t' = t ∧ ∀ p, p < people.length → ¬ Asks people l t j p) ∨ ∃ p, p < people.length ∧ Took people l t t' j p) := by
  obtain ⟨o, ho, t', rfl, hq⟩ := rangeB_spec (R := Empty) (body := fun k280 s296 => Option.bind (route_matcher_take s296 (j : Int) (k280 : Int)) fun x319 => if x319.1 = true then some (.bk x319.2) else some (.nx x319.2)) people.length (fun i s => s = t ∧ ∀ p, p < i → ¬ Asks people l t j p)
    (fun o => ∃ t', o = .fin t' ∧ ((t' = t ∧ ∀ p, p < people.length → ¬ Asks people l t j p) ∨ ∃ p, p < people.length ∧ Took people l t t' j p)) (s := t) ⟨rfl, fun p hp => by omega⟩ (by
      rintro i s hi ⟨rfl, i2⟩
      obtain ⟨b, t', r1, r2, r3⟩ := take_val hd h hj hi hf
      rw [r1, Option.bind_some]
      cases b with
      | true => exact ⟨_, rfl, t', rfl, .inr ⟨i, hi, r3 rfl⟩⟩
      | false =>
        obtain ⟨rfl, hno⟩ := r2 rfl
        refine ⟨_, rfl, rfl, fun p hp => ?_⟩
        by_cases e : p = i
        · subst e; exact hno
        · exact i2 p (by omega)) (by
      rintro s ⟨rfl, i2⟩
      exact ⟨s, rfl, .inl ⟨rfl, i2⟩⟩)
  exact ⟨t', ho, hq⟩

structure Low (people : List route_Person) (l : List route_Work) (t t' : route_matcher) (j k : Nat) : Prop where
  inv : MInv people l t'
  fix : t'.fixed = t.fixed
  here : lz t'.at_ j = (k : Int)
  none_ : ∀ i, i < l.length → i ≠ j → (lz t'.at_ i = -1 ↔ lz t.at_ i = -1)
  stay : ∀ i, i < l.length → t.fixed[i]? = some true → lz t'.at_ i = lz t.at_ i

theorem low_first {people : List route_Person} {l : List route_Work} (hd : Desk people l) {t : route_matcher} (h : MInv people l t) {j : Nat} (hj : j < l.length) (hf : t.fixed[j]? = some false) {q0 : Nat} (hq0 : q0 < people.length) (hat : lz t.at_ j = (q0 : Int)) (hab : abB people l q0 j = true) :
    ∃ s', whileB (R := Empty) (fun s446 => if (decide (s446.1 < (q0 : Int))) = true then Option.bind (route_matcher_take s446.2 (j : Int) s446.1) fun x468 => if x468.1 = true then some (.bk (s446.1, x468.2)) else some (.nx (w64 (s446.1 + 1), x468.2)) else some (.bk (s446.1, s446.2))) (0, t) = some (.fin s') ∧
      ∃ k, k < people.length ∧ Asks people l t j k ∧ (∀ k', k' < k → ¬ Asks people l t j k') ∧ Low people l t s'.2 j k := by
  have hnp := hd.np
  obtain ⟨o, ho, s', rfl, hq⟩ := whileB_spec (R := Empty) (body := fun s446 => if (decide (s446.1 < (q0 : Int))) = true then Option.bind (route_matcher_take s446.2 (j : Int) s446.1) fun x468 => if x468.1 = true then some (.bk (s446.1, x468.2)) else some (.nx (w64 (s446.1 + 1), x468.2)) else some (.bk (s446.1, s446.2)))
    (fun s => ∃ i : Nat, s = ((i : Int), t) ∧ i ≤ q0 ∧ ∀ p, p < i → ¬ Asks people l t j p) (fun s => ((q0 : Int) - s.1).toNat)
    (fun o => ∃ s', o = .fin s' ∧ ∃ k, k < people.length ∧ Asks people l t j k ∧ (∀ k', k' < k → ¬ Asks people l t j k') ∧ Low people l t s'.2 j k) (s := (0, t)) ⟨0, rfl, Nat.zero_le _, fun p hp => by omega⟩ (by
      rintro _ ⟨i, rfl, i1, i2⟩
      simp only
      by_cases hlt : i < q0
      · rw [if_pos (by simpa using hlt)]
        have hi : i < people.length := by omega
        obtain ⟨b, t', r1, r2, r3⟩ := take_val hd h hj hi hf
        rw [r1, Option.bind_some]
        cases b with
        | true =>
          have tk := r3 rfl
          exact ⟨_, rfl, _, rfl, i, hi, ⟨tk.able, Took.feas h tk hj (.inr (if_pos rfl)) fun k _ e => if_neg e⟩, i2, tk.inv, tk.fix, tk.here, tk.none_, tk.stay⟩
        | false =>
          obtain ⟨rfl, hno⟩ := r2 rfl
          have ew : w64 ((i : Int) + 1) = ((i + 1 : Nat) : Int) := by rw [w64_id (by omega) (by omega)]; rfl
          refine ⟨_, rfl, ⟨i + 1, by simp only [ew], by omega, fun p hp => ?_⟩, ?_⟩
          · by_cases e : p = i
            · subst e; exact hno
            · exact i2 p (by omega)
          · simp only [ew]; omega
      · rw [if_neg (by simpa using hlt)]
        obtain rfl : i = q0 := by omega
        exact ⟨_, rfl, _, rfl, i, hq0, ⟨hab, self_feas h hat⟩, i2, h, rfl, hat, fun _ _ _ => Iff.rfl, fun _ _ _ => rfl⟩)
  exact ⟨s', ho, hq⟩

theorem ref_first {people : List route_Person} {l : List route_Work} (hd : Desk people l) {t : route_matcher} {fx : List Int} (h : Sim people l t fx) {j : Nat} (hj : j < l.length) (hex : ∃ k, k < people.length ∧ Asks people l t j k) :
    ∃ s, rangeB (R := Empty) (fun k214 s222 => Option.bind (idx s222 (j : Int)) fun x237 => Option.bind (setI s222 (j : Int) (k214 : Int)) fun x242 => Option.bind (idx people (k214 : Int)) fun x246 => Option.bind (idx l (j : Int)) fun x253 => Option.bind (portref2_able x246 x253.needs) fun x261 => Option.bind (if x261 = true then (Option.bind (portref2_fits people l x242) fun x264 => some x264) else (some false)) fun s263 => if s263 = true then some (.bk x242) else some (.nx x242)) people.length 0 fx = some (.fin s) ∧
      ∃ k, k < people.length ∧ Asks people l t j k ∧ (∀ k', k' < k → ¬ Asks people l t j k') ∧ s.length = l.length ∧ ∀ i, lz s i = if i = j then (k : Int) else lz fx i := by
  obtain ⟨o, ho, s, rfl, hq⟩ := rangeB_spec (R := Empty) (body := fun k214 s222 => Option.bind (idx s222 (j : Int)) fun x237 => Option.bind (setI s222 (j : Int) (k214 : Int)) fun x242 => Option.bind (idx people (k214 : Int)) fun x246 => Option.bind (idx l (j : Int)) fun x253 => Option.bind (portref2_able x246 x253.needs) fun x261 => Option.bind (if x261 = true then (Option.bind (portref2_fits people l x242) fun x264 => some x264) else (some false)) fun s263 => if s263 = true then some (.bk x242) else some (.nx x242)) people.length
    (fun i s => s.length = l.length ∧ (∀ k, k ≠ j → lz s k = lz fx k) ∧ ∀ p, p < i → ¬ Asks people l t j p)
    (fun o => ∃ s, o = .fin s ∧ ∃ k, k < people.length ∧ Asks people l t j k ∧ (∀ k', k' < k → ¬ Asks people l t j k') ∧ s.length = l.length ∧ ∀ i, lz s i = if i = j then (k : Int) else lz fx i)
    (s := fx) ⟨h.len, fun _ _ => rfl, fun p hp => by omega⟩ (by
      rintro i s hi ⟨i1, i2, i3⟩
      have hjs : j < s.length := by omega
      have hs1 : ∀ k, lz (s.set j (i : Int)) k = if k = j then (i : Int) else lz fx k := fun k => by
        rw [lz_set hjs]
        by_cases e : k = j
        · rw [if_pos e, if_pos e]
        · rw [if_neg e, if_neg e, i2 k e]
      have hl1 : (s.set j (i : Int)).length = l.length := by simp [i1]
      rw [lz_idx hjs, Option.bind_some, setI_nat hjs, Option.bind_some, idx_lt people i hi, Option.bind_some, idx_lt l j hj, Option.bind_some, (ab_val hi hj).2, Option.bind_some]
      cases hab : abB people l i j with
      | false =>
        rw [if_neg (by decide), Option.bind_some, if_neg (by decide)]
        refine ⟨_, rfl, hl1, fun k e => by rw [hs1, if_neg e], fun p hp => ?_⟩
        by_cases e : p = i
        · subst e; intro hh; rw [hh.1] at hab; cases hab
        · exact i3 p (by omega)
      | true =>
        rw [if_pos rfl]
        have hreq : Req people l (s.set j (i : Int)) := ⟨hl1, fun k hk => by
          rw [hs1]
          split
          · exact .inr (.inr ⟨i, hi, rfl⟩)
          · rw [h.eq k hk]; exact req_rg h.inv hk⟩
        have hcg : Feas (abB people l) (capI people) people.length l.length (lz (s.set j (i : Int))) ↔ Feas (abB people l) (capI people) people.length l.length fun k => if k = j then (i : Int) else reqT t k := by
          have e : ∀ k, k < l.length → lz (s.set j (i : Int)) k = if k = j then (i : Int) else reqT t k := fun k hk => by
            rw [hs1]
            by_cases e : k = j
            · rw [if_pos e, if_pos e]
            · rw [if_neg e, if_neg e, h.eq k hk]
          exact ⟨Feas.congr e, Feas.congr fun k hk => (e k hk).symm⟩
        rw [fits_val hd hreq, Option.bind_some, Option.bind_some]
        by_cases hfe : Feas (abB people l) (capI people) people.length l.length (lz (s.set j (i : Int)))
        · rw [if_pos (by simpa using hfe)]
          exact ⟨_, rfl, _, rfl, i, hi, ⟨hab, hcg.1 hfe⟩, i3, hl1, hs1⟩
        · rw [if_neg (by simpa using hfe)]
          refine ⟨_, rfl, hl1, fun k e => by rw [hs1, if_neg e], fun p hp => ?_⟩
          by_cases e : p = i
          · subst e; intro hh; exact hfe (hcg.2 hh.2)
          · exact i3 p (by omega)) (by
      rintro s ⟨i1, i2, i3⟩
      obtain ⟨k, hk, ha⟩ := hex
      exact absurd ha (i3 k hk))
  exact ⟨s, ho, hq⟩

theorem orErr (a b : Int) : cmp_Or_api_Errno [a, b] = some (if a ≠ 0 then a else b) := by
  by_cases ha : a = 0 <;> by_cases hb : b = 0 <;> simp [cmp_Or_api_Errno, rangeB, idx, ha, hb, Lp.andThen]

theorem order_in {l : List route_Work} {x : Int} (h : x ∈ orderL l) : ∃ j, j < l.length ∧ x = (j : Int) := intsN_mem ((List.mergeSort_perm _ _).mem_iff.1 h)
theorem order_all {l : List route_Work} {j : Nat} (h : j < l.length) : (j : Int) ∈ orderL l := (List.mergeSort_perm _ _).mem_iff.2 (by
  unfold intsN
  exact List.mem_map.2 ⟨j, List.mem_range.2 h, rfl⟩)
theorem order_nodup (l : List route_Work) : (orderL l).Nodup := (List.mergeSort_perm _ _).nodup_iff.2 (by
  unfold intsN
  exact List.Pairwise.map _ (fun a b h e => h (by omega)) List.nodup_range)

/-- the first pass -/
theorem pass_one {people : List route_Person} {l : List route_Work} (hd : Desk people l) {t : route_matcher} {fx : List Int} (h : Sim people l t fx) (hf : ∀ k, k < l.length → t.fixed[k]? = some false) (hn : ∀ k, k < l.length → lz t.at_ k = -1) {R : Type} :
    ∃ t' fx', rangeB (R := R) (fun k215 s231 => Option.bind (Option.bind (idx (orderL l) (k215 : Int)) fun x272 => Option.bind (rangeB (R := Empty) (fun k280 s296 => Option.bind (route_matcher_take s296 x272 (k280 : Int)) fun x319 => if x319.1 = true then some (.bk x319.2) else some (.nx x319.2)) people.length 0 s231) fun o277 => o277.andThen (fun y => y.elim) fun s278 => some s278) fun s255 => some (.nx s255)) (orderL l).length 0 t = some (.fin t') ∧
      rangeB (R := R) (fun k86 s94 => Option.bind (Option.bind (idx (orderL l) (k86 : Int)) fun x119 => Option.bind (idx s94 x119) fun x124 => Option.bind (setI s94 x119 (-1)) fun x129 => Option.bind (portref2_fits people l x129) fun x133 => Option.bind (if (!x133) = true then Option.bind (idx x129 x119) fun x148 => Option.bind (setI x129 x119 (-2)) fun x153 => some x153 else some x129) fun s138 => some s138) fun s110 => some (.nx s110)) (orderL l).length 0 fx = some (.fin fx') ∧
      Sim people l t' fx' ∧ ∀ k, k < l.length → t'.fixed[k]? = some false := by
  have hnd := order_nodup l
  rcases rangeB_sim (R := R) (b := fun k215 s231 => Option.bind (Option.bind (idx (orderL l) (k215 : Int)) fun x272 => Option.bind (rangeB (R := Empty) (fun k280 s296 => Option.bind (route_matcher_take s296 x272 (k280 : Int)) fun x319 => if x319.1 = true then some (.bk x319.2) else some (.nx x319.2)) people.length 0 s231) fun o277 => o277.andThen (fun y => y.elim) fun s278 => some s278) fun s255 => some (.nx s255))
    (b' := fun k86 s94 => Option.bind (Option.bind (idx (orderL l) (k86 : Int)) fun x119 => Option.bind (idx s94 x119) fun x124 => Option.bind (setI s94 x119 (-1)) fun x129 => Option.bind (portref2_fits people l x129) fun x133 => Option.bind (if (!x133) = true then Option.bind (idx x129 x119) fun x148 => Option.bind (setI x129 x119 (-2)) fun x153 => some x153 else some x129) fun s138 => some s138) fun s110 => some (.nx s110))
    (orderL l).length (fun _ => False) (fun k t fx => Sim people l t fx ∧ (∀ j, j < l.length → t.fixed[j]? = some false) ∧ ∀ i (hi : i < (orderL l).length), k ≤ i → ∀ j : Nat, (orderL l)[i] = (j : Int) → lz t.at_ j = -1)
    (s := t) (s' := fx) ⟨h, hf, fun i hi _ j e => by
      obtain ⟨j', hj', e'⟩ := order_in (List.getElem_mem hi)
      obtain rfl : j = j' := by omega
      exact hn j hj'⟩ (by
      rintro k t fx hk ⟨i1, i2, i3⟩
      right
      obtain ⟨j, hj, ej⟩ := order_in (List.getElem_mem hk)
      have hat := i3 k hk (Nat.le_refl _) j ej
      have hjf : j < fx.length := by rw [i1.len]; exact hj
      have other : ∀ i (hi : i < (orderL l).length), k + 1 ≤ i → ∀ j' : Nat, (orderL l)[i] = (j' : Int) → j' ≠ j := by
        intro i hi hki j' ej' e
        have := List.pairwise_iff_getElem.1 hnd k i hk hi (by omega)
        exact this (by omega)
      obtain ⟨t', a1, a2⟩ := take_first hd i1.inv hj (i2 j hj)
      have hreq : Req people l (fx.set j (-1)) := i1.set hj (.inr (.inl rfl))
      have hl1 : ∀ i, lz (fx.set j (-1)) i = if i = j then -1 else lz fx i := fun i => lz_set hjf i
      rw [idx_lt _ k hk, Option.bind_some, ej, Option.bind_some, a1, Option.bind_some, Lp.andThen_fin, Option.bind_some, lz_idx hjf, Option.bind_some, setI_nat hjf, Option.bind_some, fits_val hd hreq, Option.bind_some]
      rcases a2 with ⟨rfl, hno⟩ | ⟨p, hp, tk⟩
      · have hnf : ¬ Feas (abB people l) (capI people) people.length l.length (lz (fx.set j (-1))) := by
          rintro ⟨g, hg⟩
          obtain ⟨q, hq, hgq, hab⟩ := hg.free j hj (by rw [hl1, if_pos rfl])
          refine hno q hq ⟨hab, g, fun k hk e => ?_, fun k hk e => ?_, fun k hk e => ?_, hg.room⟩
          · by_cases ek : k = j
            · subst ek; simp at e <;> omega
            · rw [if_neg ek, ← i1.eq k hk] at e
              exact hg.out k hk (by rw [hl1, if_neg ek]; exact e)
          · by_cases ek : k = j
            · subst ek; simp only [if_true]; exact hgq
            · simp only [if_neg ek, ← i1.eq k hk] at e ⊢
              have := hg.fix k hk (by rw [hl1, if_neg ek]; exact e)
              rw [this, hl1, if_neg ek]
          · by_cases ek : k = j
            · subst ek; simp at e <;> omega
            · rw [if_neg ek, ← i1.eq k hk] at e
              exact hg.free k hk (by rw [hl1, if_neg ek]; exact e)
        have hjf' : j < (fx.set j (-1)).length := by simpa using hjf
        rw [if_pos (by simpa using hnf), lz_idx hjf', Option.bind_some, setI_nat hjf', Option.bind_some, Option.bind_some]
        refine ⟨_, _, rfl, rfl, ⟨i1.inv, by simp [i1.len], fun i hi => ?_⟩, i2, fun i hi hki => i3 i hi (by omega)⟩
        rw [lz_set hjf', hl1]
        by_cases e : i = j
        · subst e
          rw [if_pos rfl]
          unfold reqT
          rw [if_pos hat]
        · rw [if_neg e, if_neg e, i1.eq i hi]
      · have hfe : Feas (abB people l) (capI people) people.length l.length (lz (fx.set j (-1))) := Took.feas i1.inv tk hj (.inl (by rw [hl1, if_pos rfl])) fun i hi e => by rw [hl1, if_neg e, i1.eq i hi]
        rw [if_neg (by simpa using hfe), Option.bind_some]
        refine ⟨_, _, rfl, rfl, ⟨tk.inv, by simp [i1.len], fun i hi => ?_⟩, fun i hi => by rw [tk.fix]; exact i2 i hi, fun i hi hki j' ej' => ?_⟩
        · rw [hl1]
          unfold reqT
          rw [tk.fix, i2 i hi, if_neg (show ¬ (some false : Option Bool) = some true by decide)]
          by_cases e : i = j
          · subst e
            rw [if_pos rfl, tk.here, if_neg (by omega)]
          · rw [if_neg e, i1.eq i hi]
            unfold reqT
            rw [i2 i hi, if_neg (show ¬ (some false : Option Bool) = some true by decide)]
            by_cases ea : lz t.at_ i = -1
            · rw [if_pos ea, if_pos ((tk.none_ i hi e).2 ea)]
            · rw [if_neg ea, if_neg fun h => ea ((tk.none_ i hi e).1 h)]
        · obtain ⟨j'', hj'', e''⟩ := order_in (List.getElem_mem hi)
          obtain rfl : j' = j'' := by omega
          exact (tk.none_ j' hj'' (other i hi hki j' ej')).2 (i3 i hi (by omega) j' ej')) with ⟨_, _, _, h⟩ | ⟨t', fx', b1, b2, b3, b4, _⟩
  · exact h.elim
  · exact ⟨t', fx', b1, b2, b3, b4⟩

/-- the second pass -/
theorem pass_two {people : List route_Person} {l : List route_Work} (hd : Desk people l) {t : route_matcher} {fx : List Int} (h : Sim people l t fx) (hf : ∀ k, k < l.length → t.fixed[k]? = some false) {R : Type} :
    ∃ t' fx', rangeB (R := R) (fun k354 s370 => Option.bind (Option.bind (idx (orderL l) (k354 : Int)) fun x411 => Option.bind (idx s370.at_ x411) fun x416 => if (decide (x416 < 0)) = true then some s370 else Option.bind (whileB (R := Empty) (fun s446 => if (decide (s446.1 < x416)) = true then Option.bind (route_matcher_take s446.2 x411 s446.1) fun x468 => if x468.1 = true then some (.bk (s446.1, x468.2)) else some (.nx (w64 (s446.1 + 1), x468.2)) else some (.bk (s446.1, s446.2))) (0, s370)) fun o427 => o427.andThen (fun y => y.elim) fun s428 => Option.bind (idx s428.2.fixed x411) fun x488 => Option.bind (setI s428.2.fixed x411 true) fun x493 => some (⟨s428.2.people, s428.2.work, s428.2.at_, s428.2.free, x493⟩ : route_matcher)) fun s394 => some (.nx s394)) (orderL l).length 0 t = some (.fin t') ∧
      rangeB (R := R) (fun k166 s174 => Option.bind (Option.bind (idx (orderL l) (k166 : Int)) fun x199 => Option.bind (idx s174 x199) fun x204 => if (x204 == (-2)) = true then some s174 else Option.bind (rangeB (R := Empty) (fun k214 s222 => Option.bind (idx s222 x199) fun x237 => Option.bind (setI s222 x199 (k214 : Int)) fun x242 => Option.bind (idx people (k214 : Int)) fun x246 => Option.bind (idx l x199) fun x253 => Option.bind (portref2_able x246 x253.needs) fun x261 => Option.bind (if x261 = true then (Option.bind (portref2_fits people l x242) fun x264 => some x264) else (some false)) fun s263 => if s263 = true then some (.bk x242) else some (.nx x242)) people.length 0 s174) fun o211 => o211.andThen (fun y => y.elim) fun s212 => some s212) fun s190 => some (.nx s190)) (orderL l).length 0 fx = some (.fin fx') ∧
      Sim people l t' fx' ∧ ∀ k, k < l.length → lz t'.at_ k = -1 ∨ t'.fixed[k]? = some true := by
  have hnd := order_nodup l
  rcases rangeB_sim (R := R) (b := fun k354 s370 => Option.bind (Option.bind (idx (orderL l) (k354 : Int)) fun x411 => Option.bind (idx s370.at_ x411) fun x416 => if (decide (x416 < 0)) = true then some s370 else Option.bind (whileB (R := Empty) (fun s446 => if (decide (s446.1 < x416)) = true then Option.bind (route_matcher_take s446.2 x411 s446.1) fun x468 => if x468.1 = true then some (.bk (s446.1, x468.2)) else some (.nx (w64 (s446.1 + 1), x468.2)) else some (.bk (s446.1, s446.2))) (0, s370)) fun o427 => o427.andThen (fun y => y.elim) fun s428 => Option.bind (idx s428.2.fixed x411) fun x488 => Option.bind (setI s428.2.fixed x411 true) fun x493 => some (⟨s428.2.people, s428.2.work, s428.2.at_, s428.2.free, x493⟩ : route_matcher)) fun s394 => some (.nx s394))
    (b' := fun k166 s174 => Option.bind (Option.bind (idx (orderL l) (k166 : Int)) fun x199 => Option.bind (idx s174 x199) fun x204 => if (x204 == (-2)) = true then some s174 else Option.bind (rangeB (R := Empty) (fun k214 s222 => Option.bind (idx s222 x199) fun x237 => Option.bind (setI s222 x199 (k214 : Int)) fun x242 => Option.bind (idx people (k214 : Int)) fun x246 => Option.bind (idx l x199) fun x253 => Option.bind (portref2_able x246 x253.needs) fun x261 => Option.bind (if x261 = true then (Option.bind (portref2_fits people l x242) fun x264 => some x264) else (some false)) fun s263 => if s263 = true then some (.bk x242) else some (.nx x242)) people.length 0 s174) fun o211 => o211.andThen (fun y => y.elim) fun s212 => some s212) fun s190 => some (.nx s190))
    (orderL l).length (fun _ => False) (fun k t fx => Sim people l t fx ∧ (∀ i (hi : i < (orderL l).length), k ≤ i → ∀ j : Nat, (orderL l)[i] = (j : Int) → t.fixed[j]? = some false) ∧ ∀ i (hi : i < (orderL l).length), i < k → ∀ j : Nat, (orderL l)[i] = (j : Int) → lz t.at_ j = -1 ∨ t.fixed[j]? = some true)
    (s := t) (s' := fx) ⟨h, fun i hi _ j e => by
      obtain ⟨j', hj', e'⟩ := order_in (List.getElem_mem hi)
      obtain rfl : j = j' := by omega
      exact hf j hj', fun i hi h0 => by omega⟩ (by
      rintro k t fx hk ⟨i1, i2, i3⟩
      right
      obtain ⟨j, hj, ej⟩ := order_in (List.getElem_mem hk)
      have hfx := i2 k hk (Nat.le_refl _) j ej
      have hjf : j < fx.length := by rw [i1.len]; exact hj
      have hja : j < t.at_.length := by rw [i1.inv.la]; exact hj
      have other : ∀ i (hi : i < (orderL l).length), i ≠ k → ∀ j' : Nat, (orderL l)[i] = (j' : Int) → j' ≠ j := by
        intro i hi hki j' ej' e
        rcases Nat.lt_or_gt_of_ne hki with h' | h'
        · exact List.pairwise_iff_getElem.1 hnd i k hi hk h' (by omega)
        · exact List.pairwise_iff_getElem.1 hnd k i hk hi h' (by omega)
      rw [idx_lt _ k hk, Option.bind_some, ej, Option.bind_some, lz_idx hja, Option.bind_some, lz_idx hjf, Option.bind_some]
      rcases i1.inv.rg j hj with hat | ⟨q0, hq0, hat, hab⟩
      · have e2 : lz fx j = -2 := by rw [i1.eq j hj]; unfold reqT; rw [if_pos hat]
        rw [if_pos (by rw [hat]; decide), if_pos (by rw [e2]; rfl), Option.bind_some, Option.bind_some]
        refine ⟨_, _, rfl, rfl, i1, fun i hi hki => i2 i hi (by omega), fun i hi hik j' ej' => ?_⟩
        by_cases e : i = k
        · subst e
          obtain rfl : j = j' := by omega
          exact .inl hat
        · exact i3 i hi (by omega) j' ej'
      · have e2 : lz fx j = -1 := by rw [i1.eq j hj]; unfold reqT; rw [if_neg (by omega), hfx, if_neg (by decide)]
        rw [if_neg (by rw [hat]; simp), if_neg (by rw [e2]; decide), hat]
        obtain ⟨s', w1, k1, hk1, p1, m1, low⟩ := low_first hd i1.inv hj hfx hq0 hat hab
        obtain ⟨fx', w2, k2, hk2, p2, m2, l2, e3⟩ := ref_first hd i1 hj ⟨k1, hk1, p1⟩
        obtain rfl : k1 = k2 := by
          rcases Nat.lt_trichotomy k1 k2 with h' | h' | h'
          · exact absurd p1 (m2 k1 h')
          · exact h'
          · exact absurd p2 (m1 k2 h')
        have hjx : j < s'.2.fixed.length := by rw [low.inv.lx]; exact hj
        rw [w1, Option.bind_some, Lp.andThen_fin, idx_lt _ j hjx, Option.bind_some, setI_nat hjx, Option.bind_some, Option.bind_some, w2, Option.bind_some, Lp.andThen_fin, Option.bind_some]
        have fxs : ∀ i, i < l.length → (s'.2.fixed.set j true)[i]? = if i = j then some true else t.fixed[i]? := fun i hi => by
          by_cases e : i = j
          · subst e; rw [List.getElem?_set_self hjx, if_pos rfl]
          · rw [List.getElem?_set_ne (fun h => e h.symm), if_neg e, low.fix]
        refine ⟨_, _, rfl, rfl, ⟨⟨low.inv.pe, low.inv.wk, low.inv.la, low.inv.lf, by simp [low.inv.lx], low.inv.rg, low.inv.fr, low.inv.rm⟩, l2, fun i hi => ?_⟩, fun i hi hki j' ej' => ?_, fun i hi hik j' ej' => ?_⟩
        · rw [e3]
          unfold reqT
          simp only [fxs i hi]
          by_cases e : i = j
          · subst e
            rw [if_pos rfl, if_pos rfl, low.here, if_neg (by omega), if_pos rfl]
          · rw [if_neg e, if_neg e, i1.eq i hi]
            unfold reqT
            by_cases ea : lz t.at_ i = -1
            · rw [if_pos ea, if_pos ((low.none_ i hi e).2 ea)]
            · rw [if_neg ea, if_neg fun h => ea ((low.none_ i hi e).1 h)]
              by_cases ef : t.fixed[i]? = some true
              · rw [if_pos ef, if_pos ef, low.stay i hi ef]
              · rw [if_neg ef, if_neg ef]
        · obtain ⟨j'', hj'', e''⟩ := order_in (List.getElem_mem hi)
          obtain rfl : j' = j'' := by omega
          have := fxs j' hj''
          rw [if_neg (other i hi (by omega) j' ej')] at this
          exact this.trans (i2 i hi (by omega) j' ej')
        · obtain ⟨j'', hj'', e''⟩ := order_in (List.getElem_mem hi)
          obtain rfl : j' = j'' := by omega
          have hx := fxs j' hj''
          by_cases e : i = k
          · subst e
            obtain rfl : j = j' := by omega
            right
            rw [if_pos rfl] at hx
            exact hx
          · have ne := other i hi e j' ej'
            rw [if_neg ne] at hx
            rcases i3 i hi (by omega) j' ej' with h' | h'
            · exact .inl ((low.none_ j' hj'' ne).2 h')
            · exact .inr (hx.trans h')) with ⟨_, _, _, h⟩ | ⟨t', fx', b1, b2, b3, _, b5⟩
  · exact h.elim
  · refine ⟨t', fx', b1, b2, b3, fun k hk => ?_⟩
    obtain ⟨i, hi, e⟩ := List.mem_iff_getElem.1 (order_all hk)
    exact b5 i hi hi k e

theorem match_start {people : List route_Person} {l : List route_Work} (hd : Desk people l) {R : Type} : ∃ t1 t2, Option.bind (makeL 281474976710656 (l.length : Int) (false : Bool)) (fun x37 => rangeB (R := R) (fun k60 s76 => Option.bind (appendL 17592186044416 s76.at_ ([(-1)] : List Int)) fun x105 => some (.nx (⟨s76.people, s76.work, x105, s76.free, s76.fixed⟩ : route_matcher))) l.length 0 (⟨people, l, ([] : (List Int)), ([] : (List Int)), x37⟩ : route_matcher)) = some (.fin t1) ∧
    rangeB (R := R) (fun k123 s139 => Option.bind (idx people (k123 : Int)) fun x162 => Option.bind (appendL 17592186044416 s139.free ([x162.capacity] : List Int)) fun x189 => some (.nx (⟨s139.people, s139.work, s139.at_, x189, s139.fixed⟩ : route_matcher))) people.length 0 t1 = some (.fin t2) ∧ MInv people l t2 ∧ (∀ k, k < l.length → t2.fixed[k]? = some false) ∧ ∀ k, k < l.length → lz t2.at_ k = -1 := by
  have hnp := hd.np
  have hnl := hd.nl
  have hmk : makeL 281474976710656 (l.length : Int) (false : Bool) = some (List.replicate l.length false) := by
    unfold makeL
    rw [if_pos (by omega)]
    simp
  rw [hmk, Option.bind_some]
  obtain ⟨t1, a1, a2⟩ := rangeB_inv (R := R) (b := fun k60 (s76 : route_matcher) => Option.bind (appendL 17592186044416 s76.at_ ([(-1)] : List Int)) fun x105 => some (.nx (⟨s76.people, s76.work, x105, s76.free, s76.fixed⟩ : route_matcher))) l.length (fun k s => s = ⟨people, l, List.replicate k (-1), [], List.replicate l.length false⟩) (s := ⟨people, l, [], [], List.replicate l.length false⟩) rfl (by
    rintro k _ hk rfl
    unfold appendL
    rw [if_pos (by simp; omega)]
    exact ⟨_, rfl, by simp [List.replicate_succ']⟩)
  obtain ⟨t2, b1, b2⟩ := rangeB_inv (R := R) (b := fun k123 (s139 : route_matcher) => Option.bind (idx people (k123 : Int)) fun x162 => Option.bind (appendL 17592186044416 s139.free ([x162.capacity] : List Int)) fun x189 => some (.nx (⟨s139.people, s139.work, s139.at_, x189, s139.fixed⟩ : route_matcher))) people.length (fun k s => ∃ fr : List Int, s = ⟨people, l, List.replicate l.length (-1), fr, List.replicate l.length false⟩ ∧ fr.length = k ∧ ∀ p, p < k → fr[p]? = some (capI people p)) (s := t1) ⟨[], a2, rfl, fun p hp => by omega⟩ (by
    rintro k _ hk ⟨fr, rfl, h1, h2⟩
    rw [idx_lt people k hk, Option.bind_some]
    unfold appendL
    rw [if_pos (by simp; omega)]
    refine ⟨_, rfl, _, rfl, by simp [h1], fun p hp => ?_⟩
    show (fr ++ [people[k].capacity])[p]? = some (capI people p)
    rw [List.getElem?_append]
    by_cases e : p = k
    · subst e
      rw [if_neg (by omega), h1, Nat.sub_self, cap_at hk]
      rfl
    · rw [if_pos (by omega)]; exact h2 p (by omega))
  obtain ⟨fr, rfl, h1, h2⟩ := b2
  have hz : ∀ k, k < l.length → lz (List.replicate l.length (-1)) k = -1 := fun k hk => by
    unfold lz
    rw [List.getElem?_replicate, if_pos hk]
    rfl
  have hc : ∀ p, cnt l.length (lz (List.replicate l.length (-1))) p = 0 := fun p => by
    unfold cnt
    rw [sumN_congr (g := fun _ => 0) fun k hk => if_neg (by rw [hz k hk]; omega)]
    exact sumN_zero
  refine ⟨t1, _, a1, b1, ⟨rfl, rfl, by simp, h1, by simp, fun k hk => .inl (hz k hk), fun p hp => ?_, fun p hp => ?_⟩, fun k hk => ?_, hz⟩
  · rw [hc]; simpa using h2 p hp
  · rw [hc]; exact (hd.cap p hp).1
  · rw [List.getElem?_replicate, if_pos hk]

theorem fix_start {people : List route_Person} {l : List route_Work} (hd : Desk people l) {R : Type} : ∃ fx, Option.bind (makeL 35184372088832 (l.length : Int) (0 : Int)) (fun x31 => rangeB (R := R) (fun k40 s48 => Option.bind (idx s48 (k40 : Int)) fun x63 => Option.bind (setI s48 (k40 : Int) (-2)) fun x68 => some (.nx x68)) x31.length 0 x31) = some (.fin fx) ∧ fx.length = l.length ∧ ∀ k, k < l.length → lz fx k = -2 := by
  have hnl := hd.nl
  have hmk : makeL 35184372088832 (l.length : Int) (0 : Int) = some (List.replicate l.length 0) := by
    unfold makeL
    rw [if_pos (by omega)]
    simp
  rw [hmk, Option.bind_some]
  obtain ⟨fx, a1, a2, a3⟩ := rangeB_inv (R := R) (b := fun k40 s48 => Option.bind (idx s48 (k40 : Int)) fun x63 => Option.bind (setI s48 (k40 : Int) (-2)) fun x68 => some (.nx x68)) (List.replicate l.length (0 : Int)).length (fun k (s : List Int) => s.length = l.length ∧ ∀ j, j < k → lz s j = -2) (s := List.replicate l.length (0 : Int)) ⟨by simp, fun j hj => by omega⟩ (by
    rintro k s hk ⟨h1, h2⟩
    have hks : k < s.length := by simp at hk; omega
    rw [idx_lt s k hks, Option.bind_some, setI_nat hks, Option.bind_some]
    refine ⟨_, rfl, by simp [h1], fun j hj => ?_⟩
    rw [lz_set hks]
    split
    · rfl
    · exact h2 j (by omega))
  exact ⟨fx, a1, a2, fun k hk => a3 k (by simpa using hk)⟩

theorem last_val (fx : List Int) {R : Type} : ∃ r, rangeB (R := R) (fun k280 s288 => Option.bind (idx s288 (k280 : Int)) fun x303 => Option.bind (setI s288 (k280 : Int) (if x303 < (-1) then (-1) else x303)) fun x312 => some (.nx x312)) fx.length 0 fx = some (.fin r) ∧ r.length = fx.length ∧ ∀ k, k < fx.length → lz r k = if lz fx k < -1 then -1 else lz fx k := by
  obtain ⟨r, a1, a2, a3, _⟩ := rangeB_inv (R := R) (b := fun k280 s288 => Option.bind (idx s288 (k280 : Int)) fun x303 => Option.bind (setI s288 (k280 : Int) (if x303 < (-1) then (-1) else x303)) fun x312 => some (.nx x312)) fx.length (fun k (s : List Int) => s.length = fx.length ∧ (∀ j, j < k → lz s j = if lz fx j < -1 then -1 else lz fx j) ∧ ∀ j, k ≤ j → lz s j = lz fx j) (s := fx) ⟨rfl, fun j hj => by omega, fun _ _ => rfl⟩ (by
    rintro k s hk ⟨h1, h2, h3⟩
    have hks : k < s.length := by omega
    rw [lz_idx hks, Option.bind_some, setI_nat hks, Option.bind_some]
    refine ⟨_, rfl, by simp [h1], fun j hj => ?_, fun j hj => ?_⟩
    · rw [lz_set hks]
      by_cases e : j = k
      · subst e; rw [if_pos rfl, h3 j (Nat.le_refl _)]
      · rw [if_neg e]; exact h2 j (by omega)
    · rw [lz_set hks, if_neg (by omega)]
      exact h3 j (by omega))
  exact ⟨r, a1, a2, a3⟩

theorem match_eq (people : List route_Person) (l : List route_Work) (hp : ∀ p ∈ people, ∀ k ∈ p.skills, k.name.size ≤ 9223372036854775807) (hs : ∀ w ∈ l, ∀ k ∈ w.needs, k.name.size ≤ 9223372036854775807) :
    ∃ r, route_Match people l = some r ∧ portref2_MatchOf people l = some r := by
  obtain ⟨e1, p1, p2, p3⟩ := people_eq people hp
  obtain ⟨e2, w1, w2, w3⟩ := work_eq l hs
  unfold route_Match portref2_MatchOf
  rw [p1, p2, w1, w2]
  simp only [Option.bind_some, orErr]
  by_cases h1 : e1 = 0
  rotate_left
  · have : (e1 != 0) = true := by simpa using h1
    simp [h1]
  subst h1
  by_cases h2 : e2 = 0
  rotate_left
  · have : (e2 != 0) = true := by simpa using h2
    simp [h2]
  subst h2
  simp only [ne_eq, not_true, if_false, bne_self_eq_false, Bool.false_eq_true]
  have hpo := p3 rfl
  have hwo := w3 rfl
  have hd : Desk people l := ⟨hpo.1, hwo.1, fun p hp => by
    have := hpo.2 p people[p] (List.getElem?_eq_getElem hp)
    rw [← cap_at hp]
    exact this.2.1⟩
  obtain ⟨b, hb⟩ : ∃ b, slices_ContainsFunc_Lroute_Work_route_Work l (fun y20 => route_Match_1 y20) = some b := by
    show ∃ b, slices_ContainsFunc_Lroute_Work_route_Work l (fun y => some ((fun w : route_Work => w.weight != 1) y)) = some b
    unfold slices_ContainsFunc_Lroute_Work_route_Work slices_IndexFunc_Lroute_Work_route_Work
    rw [rangeB_index]
    cases l.findIdx? (fun w : route_Work => w.weight != 1) <;> exact ⟨_, rfl⟩
  have hb' : slices_ContainsFunc_Lroute_Work_route_Work l (fun y15 => portref2_MatchOf_1 y15) = some b := hb
  rw [hb, hb']
  simp only [Option.bind_some]
  cases b with
  | true => exact ⟨_, rfl, rfl⟩
  | false =>
    simp only [Bool.false_eq_true, if_false]
    obtain ⟨t1, t2, a1, a2, a3, a4, a5⟩ := match_start hd (R := (List Int) × Int)
    obtain ⟨fx, b1, b2, b3⟩ := fix_start hd (R := (List Int) × Int)
    have sim : Sim people l t2 fx := ⟨a3, b2, fun k hk => by rw [b3 k hk]; unfold reqT; rw [if_pos (a5 k hk)]⟩
    obtain ⟨t3, fx3, c1, c2, c3, c4⟩ := pass_one hd sim a4 a5 (R := (List Int) × Int)
    obtain ⟨t4, fx4, d1, d2, d3, d4⟩ := pass_two hd c3 c4 (R := (List Int) × Int)
    obtain ⟨r, g1, g2, g3⟩ := last_val fx4 (R := (List Int) × Int)
    have fin : t4.at_ = r := by
      refine lz_ext (by rw [d3.inv.la, g2, d3.len]) fun k hk => ?_
      have hk' : k < l.length := by rw [d3.inv.la] at hk; exact hk
      rw [g3 k (by rw [d3.len]; exact hk'), d3.eq k hk']
      unfold reqT
      rcases d4 k hk' with e | e
      · rw [if_pos e, e]; rfl
      · by_cases ea : lz t4.at_ k = -1
        · rw [if_pos ea, ea]; rfl
        · rw [if_neg ea, if_pos e, if_neg]
          rcases d3.inv.rg k hk' with h | ⟨q, _, h, _⟩ <;> omega
    rcases hm1 : makeL 281474976710656 (l.length : Int) (false : Bool) with _ | x37
    · rw [hm1] at a1; cases a1
    rcases hm2 : makeL 35184372088832 (l.length : Int) (0 : Int) with _ | x31
    · rw [hm2] at b1; cases b1
    rw [hm1, Option.bind_some] at a1
    rw [hm2, Option.bind_some] at b1
    refine ⟨(r, 0), ?_, ?_⟩
    · rw [Option.bind_some, a1, Option.bind_some, Lp.andThen_fin, a2, Option.bind_some, Lp.andThen_fin, route_order_val l hwo, Option.bind_some, c1, Option.bind_some, Lp.andThen_fin, Option.bind_some, d1, Option.bind_some, Lp.andThen_fin, fin]
    · rw [Option.bind_some, b1, Option.bind_some, Lp.andThen_fin, ref_order_val l hwo, Option.bind_some, c2, Option.bind_some, Lp.andThen_fin, d2, Option.bind_some, Lp.andThen_fin, g1, Option.bind_some, Lp.andThen_fin]

theorem matches_true (people : List route_Person) (l : List route_Work) (hp : ∀ p ∈ people, ∀ k ∈ p.skills, k.name.size ≤ 9223372036854775807) (hs : ∀ w ∈ l, ∀ k ∈ w.needs, k.name.size ≤ 9223372036854775807) : portlaw2_RouteMatches people l = some true := by
  obtain ⟨x, a, b⟩ := match_eq people l hp hs
  unfold portlaw2_RouteMatches
  rw [a, b, Option.bind_some, Option.bind_some, if_pos (by simp), equal_ints]
  rfl
end Go.Proofs.YtgmenjhmnjhgoaaDoor.M
