import Derived.Test.YtabkhhpkibbheaaGa
namespace Go.Gw
open Go Go.RowKit Go.Pu
variable {Dw : Prop}
set_option linter.unusedSimpArgs false
set_option linter.unusedVariables false
theorem Hp.storeAt {P : Program} {B i b off sz : Nat} {A : Nat → Prop} {w : World} {L : List Ob} {cs ds : List Value} {t tc : TypeId} {nv : Value} (hH : Hp B A w L) (hi : L[i]? = some (obC b cs tc)) (hs : ∀ w, (Go.sizeOf t).run P w = .ok sz w) (hsz : nv.cells.size = sz) (hfit : off + sz ≤ cs.length) (hone : ∀ u ∈ nv.cells.toList, u.oneCell' = true)
  (hds : cs.take off ++ nv.cells.toList ++ cs.drop (off + sz) = ds) (hB : B ≤ w.heap.size) (hA : ∀ b, w.heap.size ≤ b → A b) :
  (Instr.storeAt t (.pointer (some ⟨b, off, none⟩)) nv).run P w = .ok () (w.setRow b ds.toArray) ∧ Hp B A (w.setRow b ds.toArray) (L.set i (obC b ds tc)) ∧ Tr Dw B A w A (w.setRow b ds.toArray) := by
 obtain ⟨f, ⟨rfl, hp⟩, hb, hset⟩ := hH.at hi
 have hcl : nv.cells.toList.length = sz := by simpa using hsz
 have hst := run_storeCells_at P b off tc nv.cells.toList 0 cs.toArray w hp (by simp; omega) hone
 rw [Nat.add_zero] at hst
 have hrow : ((cs.toArray.toList.take off ++ nv.cells.toList ++ cs.toArray.toList.drop (off + nv.cells.toList.length))).toArray = ds.toArray := by
  rw [← hds, hcl]
 rw [hrow] at hst
 have hmv : Mv Dw B A w A (w.setRow b ds.toArray) (some b) :=
  ⟨rfl, rfl, rfl, by simp, fun _ => Nat.le_refl _, fun k hk hne => setRow_other w b k _ (fun e => hne (by rw [e])), fun k hk => by cases hk; exact ⟨(hb b (by simp)).1, (hb b (by simp)).2.2⟩, fun _ h => h, fun _ _ h => h, fun b' hb' => hA b' (by simpa using hb')⟩
 refine ⟨?_, hset A _ (some b) _ _ hmv (fun k hk => by cases hk; simp) ⟨rfl, setRow_heap w b cs.toArray _ tc _ hp⟩ fun b' hb' => ⟨.inl hb', (hb b' hb').1, (hb b' hb').2.2⟩, hmv.tr hB⟩
 simp only [Instr.storeAt, Instr.sureAddr]
 simp [storeVar, hs, hsz, hst]
section
variable {P : Program} {ops : Array Oper} {md : Region.Mode} {W : World → Prop}
def Flg (ops : Array Oper) (k : Nat) (listed : Array Bool) : Prop := ∀ t, k ≤ t → t < ops.size → listed.getD t true = true
theorem Flg.set {k i : Nat} {listed : Array Bool} (h : Flg ops k listed) : Flg ops k (listed.setIfInBounds i true) := fun t ht hs => by
 by_cases hit : i = t
 ·subst hit
  rcases Nat.lt_or_ge i listed.size with h1 | h1
  ·simp [h1]
  ·rw [Array.getD_eq_getD_getElem?, Array.getElem?_eq_none (by simpa using h1)]; rfl
 ·rw [getD_set_ne true hit]; exact h t ht hs
theorem Flg.lt {k j : Nat} {listed : Array Bool} (h : Flg ops k listed) (hj : j ∈ Region.ready md ops listed) : j < k := by
 obtain ⟨h1, o, ho, _⟩ := mem_ready.1 hj
 rcases Nat.lt_or_ge j k with h2 | h2
 ·exact h2
 ·rw [h j h2 (Array.getElem?_eq_some_iff.1 ho).1] at h1; cases h1
theorem wpAnyLQ_firstF {k i : Nat} {oi : Oper} {v : Value} {L : Array Bool → Act → Prop} (hi : ops[i]? = some oi) (hsel : ∀ (j : Nat) (o : Oper) cs b, ops[j]? = some o → o.op ≠ .select cs b)
  (hin : i < k) (hdone : ∀ listed a, L listed a → ∀ j ∈ Region.ready md ops listed, k ≤ j) :
  ∀ (f : Nat) (listed : Array Bool) (a : Act), Flg ops k listed →
   (∀ j oj, ops[j]? = some oj → j ≠ i → listed.getD j true = false → (∀ e ∈ oj.after, Region.binds md e = true → e.on ≠ i) → oi.apart ops oj = true) →
   i ∈ Region.ready md ops listed → YieldsIn P ops W oi v a →
   wpAnyLQ P md ops W k L f (listed.setIfInBounds i true) (a.put oi.dst v) → wpAnyLQ P md ops W k L (f + 1) listed a := by
 intro f
 induction f with
 | zero =>
  intro listed a inv _ hr hy H
  refine ⟨fun h => (by rw [h] at hr; cases hr), fun j hj => ?_⟩
  have hjn : j < k := inv.lt hj
  refine ⟨hjn, ?_⟩
  by_cases hji : j = i
  ·subst hji; exact hy.qOp hi H
  ·have := hdone _ _ H j (ready_mono hj hji)
   omega
 | succ f ih =>
  intro listed a inv hfree hr hy H
  have hun := (mem_ready.1 hr).1
  refine ⟨fun h => (by rw [h] at hr; cases hr), fun j hj => ?_⟩
  have hjn : j < k := inv.lt hj
  refine ⟨hjn, ?_⟩
  by_cases hji : j = i
  ·subst hji; exact hy.qOp hi H
  ·have h1 := (H.2 j (ready_mono hj hji)).2
   obtain ⟨hjun, oj, hoj, hall⟩ := mem_ready.1 hj
   have hnot : ∀ e ∈ oj.after, Region.binds md e = true → e.on ≠ i := fun e he hb heq => by
    have h1 := hall e he hb
    rw [heq, getD_both hun] at h1
    cases h1
   have h2 := qOp_put hoj (hfree j oj hoj hji hjun hnot) (fun cs b => hsel i oi cs b hi) (fun cs b => hsel j oj cs b hoj) hy h1
   have hfree' : ∀ k ok, ops[k]? = some ok → k ≠ i → (listed.setIfInBounds j true).getD k true = false →
     (∀ e ∈ ok.after, Region.binds md e = true → e.on ≠ i) → oi.apart ops ok = true := fun k ok hk hki hun hno => by
    refine hfree k ok hk hki ?_ hno
    by_cases hjk : j = k
    ·subst hjk; exact hjun
    ·rw [getD_set_ne true hjk] at hun; exact hun
   refine qOp_mono (fun a' h3 => ih (listed.setIfInBounds j true) a' inv.set hfree' (ready_mono hr (Ne.symm hji)) h3.1 ?_) h2
   rw [Array.setIfInBounds_comm _ _ hji]
   exact h3.2
def lexHeadF (md : Region.Mode) (ops : Array Oper) : Nat → Nat → Array Bool → Bool
 | 0, _, listed => (Region.ready md ops listed).isEmpty
 | f + 1, k, listed => (Region.ready md ops listed).contains k && Region.free md ops listed k && lexHeadF md ops f (k + 1) (listed.setIfInBounds k true)
theorem wpAnyLQ_lexF {k : Nat} {Lq : Act → Prop} (hsel : Region.noSelect ops = true) :
  ∀ (l : List Oper) (j : Nat) (listed : Array Bool) (a : Act), (∀ i, i < l.length → l[i]? = ops[j + i]?) → j + l.length = k → Flg ops k listed →
  lexHeadF md ops l.length j listed = true → wpQuiet P ops W Lq l a →
  wpAnyLQ P md ops W k (fun listed' a' => Region.ready md ops listed' = [] ∧ Lq a') l.length listed a
 | [], j, listed, a, _, hk, _, hB, h => ⟨by simpa [lexHeadF] using hB, h⟩
 | o :: l, j, listed, a, hl, hk, inv, hB, h => by
  have h0 : ops[j]? = some o := by simpa using (hl 0 (by simp)).symm
  simp only [List.length_cons, lexHeadF, Bool.and_eq_true] at hB
  obtain ⟨⟨hr, hf⟩, hB'⟩ := hB
  have hjk : j < k := by simp only [List.length_cons] at hk; omega
  have hr' : j ∈ Region.ready md ops listed := by simpa using hr
  have hst : qOp P ops W j (wpQuiet P ops W Lq l) a := by unfold qOp; simp only [h0]; exact h
  obtain ⟨v, hy, hK⟩ := yieldsIn_of_qOp h0 hst
  exact wpAnyLQ_firstF h0 (Region.noSelect_spec hsel) hjk (fun listed' a' hL j hj => by rw [hL.1] at hj; cases hj) l.length listed a inv (Region.free_spec h0 hf) hr' hy
   (wpAnyLQ_lexF hsel l (j + 1) _ _ (fun i hi => by have := hl (i + 1) (by simp; omega); simpa [Nat.add_assoc, Nat.add_comm 1 i] using this) (by simp only [List.length_cons] at hk; omega) inv.set hB' hK)
theorem wpAnyLQ_slot {k t : Nat} {L : Array Bool → Act → Prop} : ∀ (f : Nat) (listed : Array Bool) (a : Act), wpAnyLQ P md ops W k L f listed a → (∀ i o, ops[i]? = some o → i < k → listed.getD i true = false → o.dst ≠ some t) →
  ∃ listed' a', L listed' a' ∧ a'.tmps[t]? = a.tmps[t]?
 | 0, listed, a, h, _ => ⟨listed, a, h, rfl⟩
 | f + 1, listed, a, h, hd => by
  obtain ⟨i, hi⟩ := List.exists_mem_of_ne_nil _ h.1
  obtain ⟨hik, hq⟩ := h.2 i hi
  obtain ⟨hun, o, ho, _⟩ := mem_ready.1 hi
  unfold qOp at hq
  simp only [ho] at hq
  have hne := hd i o ho hik hun
  have hput : ∀ v, (a.put o.dst v).tmps[t]? = a.tmps[t]? := fun v => by
   cases hdst : o.dst with
   | none => rfl
   | some d =>
    have : d ≠ t := fun e => hne (by rw [hdst, e])
    simp [Act.put, Array.getElem?_setIfInBounds_ne this]
  have hd' : ∀ i' o', ops[i']? = some o' → i' < k → (listed.setIfInBounds i true).getD i' true = false → o'.dst ≠ some t := fun i' o' h1 h2 h3 => by
   by_cases hii : i = i'
   ·subst hii; rw [ho] at h1; cases h1; exact hne
   ·rw [getD_set_ne true hii] at h3; exact hd i' o' h1 h2 h3
  split at hq
  ·obtain ⟨v, _, h2⟩ := hq
   obtain ⟨l', a', h3, h4⟩ := wpAnyLQ_slot f _ _ h2 hd'
   exact ⟨l', a', h3, h4.trans (hput v)⟩
  ·obtain ⟨l', a', h3, h4⟩ := wpAnyLQ_slot f _ _ hq hd'
   exact ⟨l', a', h3, h4.trans (hput _)⟩
def StoresAt (P : Program) (ops : Array Oper) (k : Nat) : Nat → Nat → List (Nat × TypeId × Value) → List (Nat × Nat) → Prop
 | _, _, [], [] => True
 | ka, s, (d, t, z) :: r, (x, h) :: xs => (∃ ty pos af, ops[s]? = some ⟨none, .store t (.tmp d) (.tmp x), ty, pos, af, none⟩ ∧ (∃ e ∈ af, Region.binds md e = true ∧ e.on = h) ∧ (∃ e ∈ af, Region.binds md e = true ∧ e.on = ka)) ∧
   h < k ∧ (ops[h]?).bind (·.dst) = some x ∧ (∀ w, (Go.sizeOf t).run P w = .ok z.cells.toList.length w) ∧ StoresAt P ops k (ka + 1) (s + 1) r xs
 | _, _, _, _ => False
theorem StoresAt.get : ∀ {als : List (Nat × TypeId × Value)} {xs : List (Nat × Nat)} {k ka s j : Nat} {d : Nat} {t : TypeId} {z : Value}, StoresAt (md := md) P ops k ka s als xs → als[j]? = some (d, t, z) → ∃ x h, xs[j]? = some (x, h) ∧
  (∃ ty pos af, ops[s + j]? = some ⟨none, .store t (.tmp d) (.tmp x), ty, pos, af, none⟩ ∧ (∃ e ∈ af, Region.binds md e = true ∧ e.on = h) ∧ (∃ e ∈ af, Region.binds md e = true ∧ e.on = ka + j)) ∧
   h < k ∧ (ops[h]?).bind (·.dst) = some x ∧ (∀ w, (Go.sizeOf t).run P w = .ok z.cells.toList.length w)
 | [], _, _, _, _, _, _, _, _, _, h => by simp at h
 | _ :: _, [], _, _, _, _, _, _, _, hs, _ => hs.elim
 | (d0, t0, z0) :: r, (x0, h0) :: xs, k, ka, s, 0, d, t, z, hs, h => by simp at h; obtain ⟨rfl, rfl, rfl⟩ := h; exact ⟨x0, h0, rfl, hs.1, hs.2.1, hs.2.2.1, hs.2.2.2.1⟩
 | (d0, t0, z0) :: r, (x0, h0) :: xs, k, ka, s, j + 1, d, t, z, hs, h => by
  obtain ⟨x, h', h1, h2, h3⟩ := StoresAt.get hs.2.2.2.2 (j := j) (by simpa using h)
  rw [show s + 1 + j = s + (j + 1) by omega, show ka + 1 + j = ka + (j + 1) by omega] at h2
  exact ⟨x, h', by simpa using h1, h2, h3⟩
def obSt (als : List (Nat × TypeId × Value)) (vs : List Value) (dn : List Nat) (j b : Nat) : List Ob := match als[j]?, vs[j]? with | some (_, t, z), some v => [obC b (if j ∈ dn then v.cells.toList else z.cells.toList) t] | _, _ => []
def objSt (als : List (Nat × TypeId × Value)) (vs : List Value) (dn : List Nat) (ex : List (Nat × Nat)) : List Ob := ex.flatMap fun p => obSt als vs dn p.1 p.2
def headsF (md : Region.Mode) (ops : Array Oper) (k : Nat) (ds xs : List Nat) : Bool :=
 (List.range k).all fun i => match ops[i]? with
  | some o => plainO o && (o.after.all fun e => !(Region.binds md e) || decide (e.on < k)) && (ds.all fun d => !(o.looksAt ops).contains d && o.dst != some d) &&
    (xs.all fun x => o.dst != some x || (List.range k).all fun i' => decide (i' = i) || ((ops[i']?).bind (·.dst)) != some x)
  | none => true
theorem objSt_at {als : List (Nat × TypeId × Value)} {vs : List Value} {dn : List Nat} {j b : Nat} {d : Nat} {t : TypeId} {z v : Value} (hj : als[j]? = some (d, t, z)) (hv : vs[j]? = some v) :
  ∀ {ex : List (Nat × Nat)}, (ex.map (·.1)).Nodup → (∀ p ∈ ex, p.1 < als.length) → als.length = vs.length → (j, b) ∈ ex → ∃ i, (objSt als vs dn ex)[i]? = some (obC b (if j ∈ dn then v.cells.toList else z.cells.toList) t) ∧ ∀ dn', (∀ j', j' ≠ j → (j' ∈ dn' ↔ j' ∈ dn)) → j ∈ dn' → (objSt als vs dn ex).set i (obC b v.cells.toList t) = objSt als vs dn' ex
 | [], _, _, _, h => by cases h
 | (j0, b0) :: ex, hnd, hl, hlv, h => by
  simp only [List.map_cons, List.nodup_cons] at hnd
  have hone : ∀ dn j' b', j' < als.length → ∃ o, obSt als vs dn j' b' = [o] := fun dn j' b' hj' => by
   have h1 : als[j']? = some als[j'] := List.getElem?_eq_getElem hj'
   have h2 : vs[j']? = some (vs[j']'(by omega)) := List.getElem?_eq_getElem (by omega)
   unfold obSt
   rw [h1, h2]
   exact ⟨_, rfl⟩
  obtain ⟨o0, ho0⟩ := hone dn j0 b0 (hl (j0, b0) (by simp))
  have hrest : ∀ dn', (∀ j', j' ≠ j → (j' ∈ dn' ↔ j' ∈ dn)) → ∀ ex' : List (Nat × Nat), (∀ p ∈ ex', p.1 ≠ j) → objSt als vs dn ex' = objSt als vs dn' ex' := fun dn' hd ex' => by
   induction ex' with
   | nil => intro _; rfl
   | cons p ex' ih =>
    intro hp
    have e1 := ih (fun q hq => hp q (List.mem_cons_of_mem _ hq))
    have e2 : obSt als vs dn p.1 p.2 = obSt als vs dn' p.1 p.2 := by
     unfold obSt
     have := hd p.1 (hp p (by simp))
     split <;> simp_all
    simp only [objSt, List.flatMap_cons] at e1 ⊢
    rw [e1, e2]
  rcases List.mem_cons.1 h with h | h
  ·cases h
   have e0 : obSt als vs dn j b = [obC b (if j ∈ dn then v.cells.toList else z.cells.toList) t] := by unfold obSt; rw [hj, hv]
   refine ⟨0, by simp [objSt, e0], fun dn' hd hjd => ?_⟩
   have e1 : obSt als vs dn' j b = [obC b v.cells.toList t] := by unfold obSt; rw [hj, hv]; simp [hjd]
   have hne : ∀ p ∈ ex, p.1 ≠ j := fun p hp e => hnd.1 (by rw [← e]; exact List.mem_map.2 ⟨p, hp, rfl⟩)
   have := hrest dn' hd ex hne
   simp only [objSt, List.flatMap_cons] at this ⊢
   rw [e0, e1]
   simp [this]
  ·obtain ⟨i, h1, h2⟩ := objSt_at hj hv hnd.2 (fun p hp => hl p (List.mem_cons_of_mem _ hp)) hlv h
   have hne : j0 ≠ j := fun e => hnd.1 (by rw [e]; exact List.mem_map.2 ⟨(j, b), h, rfl⟩)
   refine ⟨i + 1, ?_, fun dn' hd hjd => ?_⟩
   ·simp only [objSt, List.flatMap_cons] at h1 ⊢
    rw [ho0]
    simpa using h1
   ·have e2 : obSt als vs dn j0 b0 = obSt als vs dn' j0 b0 := by
     unfold obSt
     have := hd j0 hne
     split <;> simp_all
    have := h2 dn' hd hjd
    simp only [objSt, List.flatMap_cons] at this ⊢
    rw [← e2, ho0]
    simp [this]
theorem putA_slot {als : List (Nat × TypeId × Value)} {t : Nat} (hd : ∀ (j d : Nat) (ty : TypeId) (z : Value), als[j]? = some (d, ty, z) → d ≠ t) (a : Act) : ∀ ex, (putA als ex a).tmps[t]? = a.tmps[t]?
 | [] => rfl
 | (j, b) :: ex => by
  rw [putA, ← putA_slot hd a ex]
  cases hj : als[j]? with
  | none => rfl
  | some p =>
   obtain ⟨d, ty, z⟩ := p
   simp [Act.put, Array.getElem?_setIfInBounds_ne (hd j d ty z hj)]
theorem objSt_congr {als : List (Nat × TypeId × Value)} {vs : List Value} {dn dn' : List Nat} (h : ∀ j, j < als.length → (j ∈ dn ↔ j ∈ dn')) : ∀ {ex : List (Nat × Nat)}, (∀ p ∈ ex, p.1 < als.length) → objSt als vs dn ex = objSt als vs dn' ex
 | [], _ => rfl
 | p :: ex, hl => by
  have e1 := objSt_congr (vs := vs) h (ex := ex) (fun q hq => hl q (List.mem_cons_of_mem _ hq))
  have e2 : obSt als vs dn p.1 p.2 = obSt als vs dn' p.1 p.2 := by
   unfold obSt
   have := h p.1 (hl p (by simp))
   split <;> simp_all
  simp only [objSt, List.flatMap_cons] at e1 ⊢
  rw [e1, e2]
theorem objSt_vs {als : List (Nat × TypeId × Value)} {vs vs' : List Value} {dn : List Nat} (h : ∀ j ∈ dn, vs[j]? = vs'[j]?) (h1 : als.length = vs.length) (h2 : als.length = vs'.length) : ∀ {ex : List (Nat × Nat)}, (∀ p ∈ ex, p.1 < als.length) → objSt als vs dn ex = objSt als vs' dn ex
 | [], _ => rfl
 | p :: ex, hl => by
  have e1 := objSt_vs h h1 h2 (ex := ex) (fun q hq => hl q (List.mem_cons_of_mem _ hq))
  have e2 : obSt als vs dn p.1 p.2 = obSt als vs' dn p.1 p.2 := by
   have hp := hl p (by simp)
   have g1 : vs[p.1]? = some (vs[p.1]'(by omega)) := List.getElem?_eq_getElem _
   have g2 : vs'[p.1]? = some (vs'[p.1]'(by omega)) := List.getElem?_eq_getElem _
   have g3 : als[p.1]? = some als[p.1] := List.getElem?_eq_getElem _
   by_cases hd : p.1 ∈ dn
   ·unfold obSt; rw [h p.1 hd]
   ·unfold obSt
    rw [g1, g2, g3]
    simp [hd]
  simp only [objSt, List.flatMap_cons] at e1 ⊢
  rw [e1, e2]
theorem wpAnyIn_define {ro : Option Nat} {nn : Fr} {k B : Nat} {als : List (Nat × TypeId × Value)} {xs : List (Nat × Nat)} {Q : Exit → Act → World → Prop} {Lq : Act → Prop} {A : Nat → Prop} {w0 : World} {L : List Ob}
  (hN : k + als.length + als.length = ops.size) (hsel : Region.noSelect ops = true) (hal : AllocsAt (md := md) P ops k als) (hst : StoresAt (md := md) P ops k k (k + als.length) als xs) (hh : headsF md ops k (als.map (·.1)) (xs.map (·.1)) = true)
  (hback : ((List.range ops.size).all fun i => match ops[i]? with | some o => o.after.all fun e => !(Region.binds md e) || decide (e.on < i) | none => true) = true) (hdd : (als.map (·.1)).Nodup) (hsz : ∀ p ∈ als, Nat.blt p.1 nn.sz = true) (hxd : ∀ x ∈ xs.map (·.1), x ∉ als.map (·.1))
  (hW : ∀ w, Kp Dw w0 w → W w) (hB : B ≤ w0.heap.size)
  (hLs : ∀ a, Lq a → ∀ (j : Nat) (x h : Nat) d t z, xs[j]? = some (x, h) → als[j]? = some (d, t, z) → ∃ v, a.tmps[x]? = some v ∧ v.cells.toList.length = z.cells.toList.length ∧ ∀ u ∈ v.cells.toList, u.oneCell' = true)
  (hLq : ∀ (ex : List (Nat × Nat)) (aQ : Act) (vs : List Value) (w : World) (A' : Nat → Prop), (ex.map (·.1)).Nodup → (∀ p ∈ ex, p.1 < als.length) → ex.length = als.length → vs.length = als.length → (∀ j, j < als.length → ∀ (x h : Nat), xs[j]? = some (x, h) → aQ.tmps[x]? = vs[j]?) → Lq aQ → Hp B A' w (objSt als vs (List.range als.length) ex ++ L) → Tr Dw B A w0 A' w → Q .normal (putA als ex aQ) w) :
  ∀ (r f : Nat) (ex : List (Nat × Nat)) (dn : List Nat) (vs : List Value) (listed lq : Array Bool) (aQ : Act) (w : World) (A' : Nat → Prop), r = f + (als.length - ex.length) + (als.length - dn.length) → als.length = vs.length → (∀ j ∈ dn, ∀ (x h : Nat), xs[j]? = some (x, h) → aQ.tmps[x]? = vs[j]? ∧ listed.getD h false = true) → (ex.map (·.1)).Nodup → (∀ p ∈ ex, p.1 < als.length) → (∀ p ∈ ex, w0.heap.size ≤ p.2) → dn.Nodup → (∀ j ∈ dn, j < als.length) → (∀ j ∈ dn, j ∈ ex.map (·.1)) →
   Fl k ops.size listed lq → listed.size = ops.size → aQ.tmps.size = nn.sz → 
   (∀ j, j < als.length → (listed.getD (k + j) false = true ↔ j ∈ ex.map (·.1))) → (∀ j, j < als.length → (listed.getD (k + als.length + j) false = true ↔ j ∈ dn)) →
   wpAnyLQ P md ops W k (fun listed' a' => Region.ready md ops listed' = [] ∧ Lq a') f lq aQ → Hp B A' w (objSt als vs dn ex ++ L) → Tr Dw B A w0 A' w → Kp Dw w0 w → wpAnyIn (FR ro) 0 P md ops Q r listed (putA als ex aQ) w := by
 have hheads : ∀ i o, i < k → ops[i]? = some o → plainO o = true ∧ (∀ e ∈ o.after, Region.binds md e = true → e.on < k) ∧ (∀ (j d : Nat) (t : TypeId) (z : Value), als[j]? = some (d, t, z) → d ∉ o.looksAt ops ∧ o.dst ≠ some d) ∧
   (∀ x ∈ xs.map (·.1), o.dst = some x → ∀ i' o', i' < k → ops[i']? = some o' → o'.dst = some x → i' = i) := by
  intro i o hi ho
  have := List.all_eq_true.1 hh i (List.mem_range.2 hi)
  rw [ho] at this
  simp only [Bool.and_eq_true] at this
  obtain ⟨⟨⟨h1, h2⟩, h3⟩, h4⟩ := this
  refine ⟨h1, fun e he hb => ?_, fun j d t z hj => ?_, fun x hx hdx i' o' hi' ho' hd' => ?_⟩
  ·have := Array.all_eq_true'.1 h2 e he
   simpa [hb] using this
  ·have hm : d ∈ als.map (·.1) := List.mem_map.2 ⟨_, List.mem_of_getElem? hj, rfl⟩
   have := List.all_eq_true.1 h3 d hm
   simpa using this
  ·have := List.all_eq_true.1 h4 x hx
   rw [hdx] at this
   simp only [bne_self_eq_false, Bool.false_or] at this
   have := List.all_eq_true.1 this i' (List.mem_range.2 hi')
   rw [ho'] at this
   simp only [Option.bind_some, hd', bne_self_eq_false, Bool.or_false, decide_eq_true_eq] at this
   exact this
 have hcount : ∀ (l : List Nat), l.Nodup → (∀ x ∈ l, x < als.length) → l.length ≤ als.length ∧ (l.length = als.length → ∀ j, j < als.length → j ∈ l) := fun l h1 h2 => nodup_lt als.length l h1 h2
 have hexl : ∀ ex : List (Nat × Nat), (∀ p ∈ ex, p.1 < als.length) → ∀ x ∈ ex.map (·.1), x < als.length := fun ex h x hx => by
  obtain ⟨p, hp, rfl⟩ := List.mem_map.1 hx
  exact h p hp
 intro r
 induction r with
 | zero =>
  intro f ex dn vs listed lq aQ w A' hr hlv hvx hnd hlt hbl hdn hdl hde hfl hsize hsa hex hdx hq hH ht hk
  have c1 := hcount _ hnd (hexl ex hlt)
  have c2 := hcount dn hdn hdl
  simp only [List.length_map] at c1
  have hf : f = 0 := by omega
  subst hf
  obtain ⟨hrdy, hL⟩ := hq
  have hlq : lq = listed := by
   apply Array.ext hfl.size
   intro i h1 h2
   have hg := hfl.get i false
   have e1 : lq.getD i false = lq[i] := by simp [h1]
   have e2 : listed.getD i false = listed[i] := by simp [h2]
   rw [e1, e2] at hg
   rw [hg]
   split
   ·rename_i hki
    rcases Nat.lt_or_ge i (k + als.length) with h3 | h3
    ·have := (hex (i - k) (by omega)).2 (c1.2 (by omega) _ (by omega))
     rw [show k + (i - k) = i by omega, e2] at this
     exact this.symm
    ·have := (hdx (i - k - als.length) (by omega)).2 (c2.2 (by omega) _ (by omega))
     rw [show k + als.length + (i - k - als.length) = i by omega, e2] at this
     exact this.symm
   ·rfl
  subst hlq
  refine ⟨hrdy, hLq ex aQ vs w A' hnd hlt (by omega) hlv.symm (fun j hj x h hx => (hvx j (c2.2 (by omega) j hj) x h hx).1) hL ?_ ht⟩
  rw [objSt_congr (dn' := dn) (fun j hj => by simp [hj, c2.2 (by omega) j hj]) hlt]
  exact hH
 | succ r ih =>
  intro f ex dn vs listed lq aQ w A' hr hlv hvx hnd hlt hbl hdn hdl hde hfl hsize hsa hex hdx hq hH ht hk
  have c1 := hcount _ hnd (hexl ex hlt)
  have c2 := hcount dn hdn hdl
  simp only [List.length_map] at c1
  have hall : Region.ready md ops listed = [] → ∀ i, i < ops.size → listed.getD i false = true := by
   intro h0 i
   induction i using Nat.strongRecOn with
   | _ i ihi =>
    intro hi
    cases hl : listed.getD i false with
    | true => rfl
    | false =>
     exfalso
     have ho : ops[i]? = some ops[i] := Array.getElem?_eq_getElem hi
     have hb := List.all_eq_true.1 hback i (List.mem_range.2 hi)
     rw [ho] at hb
     have hm : i ∈ Region.ready md ops listed := mem_ready.2 ⟨getD_in (by rw [hsize]; exact hi) hl, _, ho, fun e he hbi => by
      have h1 := Array.all_eq_true'.1 hb e he
      simp only [hbi, Bool.not_true, Bool.false_or, decide_eq_true_eq] at h1
      exact ihi e.on h1 (by omega)⟩
     rw [h0] at hm
     cases hm
  refine ⟨fun h0 => ?_, fun i hi => ?_⟩
  ·exfalso
   have hl := hall h0
   cases f with
   | succ f =>
    obtain ⟨i, hi⟩ := List.exists_mem_of_ne_nil _ hq.1
    have hik := (hq.2 i hi).1
    obtain ⟨h1, o, ho, _⟩ := mem_ready.1 hi
    rw [hfl.get, if_neg (by omega)] at h1
    have := hl i (Array.getElem?_eq_some_iff.1 ho).1
    rw [getD_both h1] at this
    cases this
   | zero =>
    have e1 : als.length ≤ ex.length := by
     have hsub : ∀ j, j < als.length → j ∈ ex.map (·.1) := fun j hj => (hex j hj).1 (hl _ (by omega))
     have key : ∀ (m : Nat) (l : List Nat), (∀ j, j < m → j ∈ l) → m ≤ l.length := by
      intro m
      induction m with
      | zero => intro l _; omega
      | succ m ih =>
       intro l hl
       have hm := hl m (by omega)
       have h1 := ih (l.erase m) (fun j hj => (List.mem_erase_of_ne (by omega)).2 (hl j (by omega)))
       have h2 := List.length_erase_of_mem hm
       have := List.length_pos_of_mem hm
       omega
     have := key als.length (ex.map (·.1)) hsub
     simpa using this
    have e2 : als.length ≤ dn.length := by
     have hsub : ∀ j, j < als.length → j ∈ dn := fun j hj => (hdx j hj).1 (hl _ (by omega))
     have key : ∀ (m : Nat) (l : List Nat), (∀ j, j < m → j ∈ l) → m ≤ l.length := by
      intro m
      induction m with
      | zero => intro l _; omega
      | succ m ih =>
       intro l hl
       have hm := hl m (by omega)
       have h1 := ih (l.erase m) (fun j hj => (List.mem_erase_of_ne (by omega)).2 (hl j (by omega)))
       have h2 := List.length_erase_of_mem hm
       have := List.length_pos_of_mem hm
       omega
     exact key als.length dn hsub
    omega
  obtain ⟨hui, o, ho, hdep⟩ := mem_ready.1 hi
  have hio := (Array.getElem?_eq_some_iff.1 ho).1
  rcases Nat.lt_or_ge i k with hik | hik
  · -- a head
   have hiq : i ∈ Region.ready md ops lq := mem_ready.2 ⟨by rw [hfl.get, if_neg (by omega)]; exact hui, o, ho, fun e he hb => by
    have h4 := (hheads i o hik ho).2.1 e he hb
    rw [hfl.get, if_neg (by omega)]; exact hdep e he hb⟩
   cases f with
   | zero => rw [hq.1] at hiq; cases hiq
   | succ f =>
    have hst' := (hq.2 i hiq).2
    obtain ⟨hpl, _, hdd', _⟩ := hheads i o hik ho
    obtain ⟨e1, e2⟩ := putA_eval (ops := ops) (als := als) (o := o) (fun cs b => Region.noSelect_spec hsel i o cs b ho) (fun j d t z hj => (hdd' j d t z hj).1) aQ ex
    have hput : ∀ v, (putA als ex aQ).put o.dst v = putA als ex (aQ.put o.dst v) := fun v => putA_put (fun j d t z hj => (hdd' j d t z hj).2) aQ ex
    have next : ∀ v, wpAnyLQ P md ops W k (fun listed' a' => Region.ready md ops listed' = [] ∧ Lq a') f (lq.setIfInBounds i true) (aQ.put o.dst v) →
      wpAnyIn (FR ro) 0 P md ops Q r (listed.setIfInBounds i true) ((putA als ex aQ).put o.dst v) w := fun v hv => by
     rw [hput]
     refine ih f ex dn vs _ _ _ w A' (by omega) hlv (fun j hj x h hx => ?_) hnd hlt hbl hdn hdl hde (hfl.head hik) (by simp [hsize]) ?_ (fun j hj => ?_) (fun j hj => ?_) hv hH ht hk
     ·obtain ⟨h1, h2⟩ := hvx j hj x h hx
      refine ⟨?_, getD_set_true h2⟩
      have hne : o.dst ≠ some x := fun e => by
       obtain ⟨p, hp⟩ : ∃ p, als[j]? = some p := ⟨als[j]'(hdl j hj), List.getElem?_eq_getElem _⟩
       obtain ⟨d, t, z⟩ := p
       obtain ⟨x', h', hx', _, hhk, hdx', _⟩ := hst.get hp
       rw [hx] at hx'
       cases hx'
       cases hoh : ops[h]? with
       | none => rw [hoh] at hdx'; cases hdx'
       | some oh =>
        rw [hoh, Option.bind_some] at hdx'
        have := (hheads h oh hhk hoh).2.2.2 x (List.mem_map.2 ⟨(x, h), List.mem_of_getElem? hx, rfl⟩) hdx' i o hik ho e
        subst this
        rw [getD_both hui] at h2
        cases h2
      cases hdst : o.dst with
      | none => exact h1
      | some d =>
       have : d ≠ x := fun e => hne (by rw [hdst, e])
       simp only [Act.put]
       rw [Array.getElem?_setIfInBounds_ne this]
       exact h1
     ·cases o.dst <;> simp [Act.put, hsa]
     ·rw [getD_set_ne false (by omega)]; exact hex j hj
     ·rw [getD_set_ne false (by omega)]; exact hdx j hj
    unfold qOp at hst'
    unfold wpOpIn
    simp only [ho] at hst' ⊢
    rw [e2]
    split
    ·rename_i hw
     rw [if_pos hw] at hst'
     obtain ⟨v, h1, h2⟩ := hst'
     have h3 := h1 w (hW w hk)
     unfold Oper.quietAt at h3
     refine ⟨fun _ _ => trivial, ?_⟩
     generalize hrun : (execOp aQ.eval o).run P w = rr at h3
     cases rr with
     | ok nx w' =>
      obtain ⟨u, rfl⟩ := plainO_value hpl hrun
      obtain ⟨rfl, rfl⟩ := h3
      rw [← e1] at hrun
      rw [semAt_run hrun (fun d h => by cases h)]
      exact next _ h2
     | halt x w' => simp only [Oper.quietUpon] at h3
    ·rename_i hw
     rw [if_neg hw] at hst'
     exact ⟨fun _ _ => trivial, next _ hst'⟩
  rcases Nat.lt_or_ge i (k + als.length) with hia | hia
  · -- an allocation
   obtain ⟨p, hp⟩ : ∃ p, als[i - k]? = some p := ⟨als[i - k]'(by omega), List.getElem?_eq_getElem _⟩
   obtain ⟨d, t, z⟩ := p
   obtain ⟨⟨ty, pos, af, ho2, hno⟩, hz⟩ := hal.get hp
   rw [show k + (i - k) = i by omega] at ho2
   have hoe := Option.some.inj (ho.symm.trans ho2)
   subst hoe
   have hnj : (i - k) ∉ ex.map (·.1) := fun h => by
    have := (hex (i - k) (by omega)).2 h
    rw [show k + (i - k) = i by omega, getD_both hui] at this
    cases this
   have hnd0 : (i - k) ∉ dn := fun h => hnj (hde _ h)
   unfold wpOpIn
   simp only [ho2]
   rw [if_pos (by simp [Region.wanted])]
   refine ⟨fun _ _ => trivial, ?_⟩
   have hrun : (execOp (putA als ex aQ).eval (⟨some d, .alloc t, ty, pos, af, none⟩ : Oper)).run P w = .ok (.value (.pointer (some ⟨w.heap.size, 0, none⟩))) (w.alloc (.cells z.cells t)) := by
    simp only [execOp, Instr.alloc]; simp [hz, newVar, newRow]
   rw [semAt_run hrun (fun d h => by cases h)]
   have hBw := Nat.le_trans hB ht.ex.size
   obtain ⟨v, hv⟩ : ∃ v, vs[i - k]? = some v := ⟨vs[i - k]'(by omega), List.getElem?_eq_getElem _⟩
   have hH' : Hp B (fun b => A' b ∧ b ≠ w.heap.size) (w.alloc (.cells z.cells t)) (objSt als vs dn ((i - k, w.heap.size) :: ex) ++ L) := by
    have := hH.alloc (.cells z.cells t) hBw ht.new
    simp only [objSt, List.flatMap_cons, obSt, hp, hv]
    rw [if_neg hnd0]
    simpa [objSt, obSt] using this
   have hnd2 : (((i - k, w.heap.size) :: ex).map (·.1)).Nodup := by simpa using ⟨by simpa using hnj, hnd⟩
   have hlt2 : ∀ p ∈ (i - k, w.heap.size) :: ex, p.1 < als.length := by
    intro p hp
    rcases List.mem_cons.1 hp with rfl | hp
    ·show i - k < als.length
     omega
    ·exact hlt p hp
   have hbl2 : ∀ p ∈ (i - k, w.heap.size) :: ex, w0.heap.size ≤ p.2 := by
    intro p hp
    rcases List.mem_cons.1 hp with rfl | hp
    ·exact hk.size
    ·exact hbl p hp
   have hlen2 := (hcount _ hnd2 (hexl _ hlt2)).1
   simp only [List.map_cons, List.length_cons, List.length_map] at hlen2
   have key := ih f ((i - k, w.heap.size) :: ex) dn vs (listed.setIfInBounds i true) lq aQ (w.alloc (.cells z.cells t)) _ (by simp only [List.length_cons]; omega) hlv (fun j hj x h hx => ⟨(hvx j hj x h hx).1, getD_set_true (hvx j hj x h hx).2⟩)
    hnd2 hlt2 hbl2 hdn hdl (fun j hj => by simp only [List.map_cons]; exact List.mem_cons_of_mem _ (hde j hj)) (hfl.alloc ⟨hik, by omega⟩) (by simp [hsize]) hsa (fun j hj => ?_) (fun j hj => ?_) hq hH' (ht.trans ((mv_alloc B _ ht.new).tr hBw)) (Bel.trans hk (Bel.mono (Kp.alloc _ _) hk.size))
   ·have : putA als ((i - k, w.heap.size) :: ex) aQ = (putA als ex aQ).put (some d) (.pointer (some ⟨w.heap.size, 0, none⟩)) := by
     simp [putA, hp]
    rw [this] at key
    exact key
   ·by_cases hji : i = k + j
    ·subst hji
     have : (listed.setIfInBounds (k + j) true).getD (k + j) false = true := by
      have hlt2 : k + j < listed.size := by rw [hsize]; omega
      simp [hlt2]
     simp [this]
    ·rw [getD_set_ne false hji, hex j hj]
     simp only [List.map_cons, List.mem_cons]
     constructor
     ·exact .inr
     ·rintro (h | h)
      ·omega
      ·exact h
   ·rw [getD_set_ne false (by omega)]; exact hdx j hj
  · -- a store
   obtain ⟨j, rfl⟩ : ∃ j, i = k + als.length + j := ⟨i - k - als.length, by omega⟩
   have hj : j < als.length := by omega
   obtain ⟨p, hp⟩ : ∃ p, als[j]? = some p := ⟨als[j], List.getElem?_eq_getElem _⟩
   obtain ⟨d, t, z⟩ := p
   obtain ⟨x, h, hxj, ⟨ty, pos, af, ho2, ⟨e1, he1, hb1, hon1⟩, ⟨e2, he2, hb2, hon2⟩⟩, hhk, hdx', hszt⟩ := hst.get hp
   have hoe := Option.some.inj (ho.symm.trans ho2)
   subst hoe
   have hlh : listed.getD h false = true := by rw [← hon1]; exact hdep e1 he1 hb1
   have hla : listed.getD (k + j) false = true := by rw [← hon2]; exact hdep e2 he2 hb2
   obtain ⟨q, hq1, hq2⟩ := List.mem_map.1 ((hex j hj).1 hla)
   obtain ⟨j', b⟩ := q
   simp only at hq2
   subst hq2
   have hnj : j' ∉ dn := fun hd => by
    have := (hdx j' hj).2 hd
    rw [getD_both hui] at this
    cases this
   have hxm : x ∈ xs.map (·.1) := List.mem_map.2 ⟨(x, h), List.mem_of_getElem? hxj, rfl⟩
   have hxq : ∃ v, aQ.tmps[x]? = some v ∧ v.cells.toList.length = z.cells.toList.length ∧ ∀ u ∈ v.cells.toList, u.oneCell' = true := by
    obtain ⟨l', a', ⟨_, hLa⟩, hta⟩ := wpAnyLQ_slot (t := x) f lq aQ hq (fun i' o' ho' hi' hun hdst => by
     cases hoh : ops[h]? with
     | none => rw [hoh] at hdx'; cases hdx'
     | some oh =>
      rw [hoh, Option.bind_some] at hdx'
      have := (hheads h oh hhk hoh).2.2.2 x hxm hdx' i' o' hi' ho' hdst
      subst this
      rw [hfl.get, if_neg (by omega), ] at hun
      rw [getD_both hun] at hlh
      cases hlh)
    rw [← hta]
    exact hLs a' hLa j' x h d t z hxj hp
   obtain ⟨v, hxv, hvc⟩ := hxq
   have hxs : (putA als ex aQ).tmps[x]? = some v := by
    rw [putA_slot (fun j d ty z hjd e => hxd x hxm (by rw [← e]; exact List.mem_map.2 ⟨_, List.mem_of_getElem? hjd, rfl⟩))]
    exact hxv
   have hlv2 : als.length = (vs.set j' v).length := by simpa using hlv
   have hv : (vs.set j' v)[j']? = some v := List.getElem?_set_self (by omega)
   have hvo : ∀ j2, j2 ≠ j' → (vs.set j' v)[j2]? = vs[j2]? := fun j2 h => by rw [List.getElem?_set_ne (Ne.symm h)]
   have hob : objSt als vs dn ex = objSt als (vs.set j' v) dn ex := objSt_vs (fun j2 hj2 => (hvo j2 (fun e => hnj (e ▸ hj2))).symm) hlv hlv2 hlt
   rw [hob] at hH
   have hptr : (putA als ex aQ).tmps[d]? = some (.pointer (some ⟨b, 0, none⟩)) := by
    have := (putA_has (n := ⟨nn.sz, aQ.defers, none⟩) (E := []) (als := als) (a := aQ) (fun j d t z hjd => ⟨hsz _ (List.mem_of_getElem? hjd), rfl⟩) hdd ⟨hsa, rfl, fun t v h => by cases h⟩ ex hnd hlt).2 (j', b) hq1 d t z hp
    exact this
   obtain ⟨pos', hat, hset⟩ := objSt_at (vs := vs.set j' v) (dn := dn) hp hv hnd hlt hlv2 hq1
   rw [if_neg hnj] at hat
   have hBw := Nat.le_trans hB ht.ex.size
   have hposlt := (List.getElem?_eq_some_iff.1 hat).1
   have hat2 : (objSt als (vs.set j' v) dn ex ++ L)[pos']? = some (obC b z.cells.toList t) := by rw [List.getElem?_append_left hposlt]; exact hat
   obtain ⟨hrun, hH', ht'⟩ := hH.storeAt (P := P) (off := 0) (sz := z.cells.toList.length) (ds := v.cells.toList) (nv := v) hat2 hszt (by rw [← Array.length_toList, hvc.1]) (by omega) hvc.2 (by
    rw [List.drop_eq_nil_of_le (by omega)]
    simp) hBw ht.new
   rw [List.set_append_left _ _ hposlt, hset (j' :: dn) (fun j2 hj2 => by simp [hj2]) (by simp)] at hH'
   unfold wpOpIn
   simp only [ho2]
   rw [if_pos (by simp [Region.wanted])]
   refine ⟨fun _ _ => trivial, ?_⟩
   have hrun2 : (execOp (putA als ex aQ).eval (⟨none, .store t (.tmp d) (.tmp x), ty, pos, af, none⟩ : Oper)).run P w = .ok .skip (w.setRow b v.cells.toList.toArray) := by
    have ed : (putA als ex aQ).eval (.tmp d) = .pointer (some ⟨b, 0, none⟩) := by simp [Act.eval, Array.getD_eq_getD_getElem?, hptr]
    have ex' : (putA als ex aQ).eval (.tmp x) = v := by simp [Act.eval, Array.getD_eq_getD_getElem?, hxs]
    simp only [execOp, ed, ex']
    simp [hrun]
   rw [semAt_run hrun2 (fun d h => by cases h)]
   have hbw : w0.heap.size ≤ b := hbl (j', b) hq1
   refine ih f ex (j' :: dn) (vs.set j' v) (listed.setIfInBounds (k + als.length + j') true) lq aQ (w.setRow b v.cells.toList.toArray) A' (by
     have := (hcount (j' :: dn) (List.nodup_cons.2 ⟨hnj, hdn⟩) (fun y hy => by
      rcases List.mem_cons.1 hy with rfl | hy
      ·exact hj
      ·exact hdl y hy)).1
     simp only [List.length_cons] at this ⊢
     omega) hlv2 (fun j2 hj2 x2 h2 hx2 => ?_) hnd hlt hbl (List.nodup_cons.2 ⟨hnj, hdn⟩) (fun y hy => ?_) (fun y hy => ?_) (hfl.alloc ⟨by omega, by omega⟩) (by simp [hsize]) hsa (fun j2 hj2 => ?_) (fun j2 hj2 => ?_) hq hH' (ht.trans ht') (Bel.trans hk ⟨rfl, rfl, rfl, by simp, fun _ => Nat.le_refl _, fun k' hk' => setRow_other w b k' _ (by omega)⟩)
   ·rcases List.mem_cons.1 hj2 with rfl | hj2
    ·rw [hxj] at hx2
     cases hx2
     exact ⟨by rw [hv]; exact hxv, getD_set_true hlh⟩
    ·obtain ⟨h3, h4⟩ := hvx j2 hj2 x2 h2 hx2
     exact ⟨by rw [hvo j2 (fun e => hnj (e ▸ hj2))]; exact h3, getD_set_true h4⟩
   ·rcases List.mem_cons.1 hy with rfl | hy
    ·exact hj
    ·exact hdl y hy
   ·rcases List.mem_cons.1 hy with rfl | hy
    ·exact List.mem_map.2 ⟨(y, b), hq1, rfl⟩
    ·exact hde y hy
   ·rw [getD_set_ne false (by omega)]; exact hex j2 hj2
   ·by_cases hji : j2 = j'
    ·subst hji
     have : (listed.setIfInBounds (k + als.length + j2) true).getD (k + als.length + j2) false = true := by
      have hlt2 : k + als.length + j2 < listed.size := by rw [hsize]; omega
      simp [hlt2]
     simp [this]
    ·rw [getD_set_ne false (by omega), hdx j2 hj2]
     simp [hji]
def objV : List (Nat × TypeId × Value) → List Value → (Nat → Nat) → Nat → List Ob
 | (_, t, _) :: r, v :: vs, b, j => obC (b j) v.cells.toList t :: objV r vs b (j + 1)
 | _, _, _, _ => []
def defB (md : Region.Mode) (ops : Array Oper) (k : Nat) (ds xs : List Nat) : Bool :=
 Region.noSelect ops && headsF md ops k ds xs && (xs.all fun x => !ds.contains x) &&
  ((List.range ops.size).all fun i => match ops[i]? with | some o => o.after.all fun e => !(Region.binds md e) || decide (e.on < i) | none => true) &&
  lexHeadF md ops k 0 ((List.range ops.size).map fun i => decide (k ≤ i ∧ i < ops.size)).toArray
theorem evs_get {E : Env} : ∀ {xs : List (Nat × Nat)} {vs : List Value}, evs E (xs.map fun p => Operand.tmp p.1) = some vs → xs.length = vs.length ∧ ∀ (j : Nat) (x h : Nat), xs[j]? = some (x, h) → ∃ v, vs[j]? = some v ∧ E.get x = some v
 | [], vs, h => by cases h; exact ⟨rfl, fun j x h hx => by simp at hx⟩
 | (x0, h0) :: xs, vs, h => by
  rw [List.map_cons, evs] at h
  split at h
  ·rename_i v vs' h1 h2
   cases h
   obtain ⟨h3, h4⟩ := evs_get h2
   refine ⟨by simp [h3], fun j x h hx => ?_⟩
   cases j with
   | zero => simp at hx; obtain ⟨rfl, rfl⟩ := hx; exact ⟨v, rfl, h1⟩
   | succ j => simp at hx; simpa using h4 j x h hx
  ·cases h
theorem objV_map (b : Nat → Nat) : ∀ (als pre : List (Nat × TypeId × Value)) (vs vpre : List Value), pre.length = vpre.length → als.length = vs.length → objV als vs b pre.length = (List.range' pre.length als.length).flatMap fun j => obSt (pre ++ als) (vpre ++ vs) (List.range (pre ++ als).length) j (b j)
 | [], pre, vs, vpre, _, h => by cases vs <;> simp [objV]
 | (d, t, z) :: r, pre, [], vpre, _, h => by simp at h
 | (d, t, z) :: r, pre, v :: vs, vpre, hp, h => by
  have := objV_map b r (pre ++ [(d, t, z)]) vs (vpre ++ [v]) (by simp [hp]) (by simpa using h)
  simp only [List.length_append, List.length_cons, List.length_nil, Nat.zero_add, List.append_assoc, List.cons_append, List.nil_append] at this
  simp only [objV, List.length_cons, List.range'_succ, List.flatMap_cons]
  rw [this]
  have h1 : (pre ++ (d, t, z) :: r)[pre.length]? = some (d, t, z) := by simp
  have h2 : (vpre ++ v :: vs)[pre.length]? = some v := by simp [hp]
  simp only [obSt, h1, h2, List.length_append, List.length_cons]
  rw [if_pos (by simp)]
  rfl
def Fits : List (Nat × TypeId × Value) → List Value → Prop
 | [], [] => True
 | (_, _, z) :: r, v :: vs => v.cells.toList.length = z.cells.toList.length ∧ (∀ u ∈ v.cells.toList, u.oneCell' = true) ∧ Fits r vs
 | _, _ => False
theorem Fits.get : ∀ {als : List (Nat × TypeId × Value)} {vs : List Value} {j : Nat} {d : Nat} {t : TypeId} {z v : Value}, Fits als vs → als[j]? = some (d, t, z) → vs[j]? = some v → v.cells.toList.length = z.cells.toList.length ∧ ∀ u ∈ v.cells.toList, u.oneCell' = true
 | [], _, _, _, _, _, _, _, h, _ => by simp at h
 | _ :: _, [], _, _, _, _, _, h, _, _ => h.elim
 | (d0, t0, z0) :: r, v0 :: vs, 0, d, t, z, v, hf, h1, h2 => by
  simp at h1 h2
  obtain ⟨rfl, rfl, rfl⟩ := h1
  subst h2
  exact ⟨hf.1, hf.2.1⟩
 | (d0, t0, z0) :: r, v0 :: vs, j + 1, d, t, z, v, hf, h1, h2 => Fits.get (j := j) hf.2.2 (by simpa using h1) (by simpa using h2)
theorem C_region_def {nn : Fr} {Q : Exit → Act → World → Prop} {E : Env} {w : World} {l : List Oper} {id k B : Nat} {A : Nat → Prop} {L : List Ob} (als : List (Nat × TypeId × Value)) (xs : List (Nat × Nat)) (hm : P.follows .mixedOrders = true)
  (hall : defB .any l.toArray k (als.map (·.1)) (xs.map (·.1)) = true) (hN : k + als.length + als.length = l.length) (hal : AllocsAt (md := .any) P l.toArray k als) (hst : StoresAt (md := .any) P l.toArray k k (k + als.length) als xs) (hxl : als.length = xs.length)
  (hds : (als.all fun p => Nat.blt p.1 nn.sz) = true) (hdd : (als.map (·.1)).Nodup) (hH : Hp B A w L) (hB : B ≤ w.heap.size) (hA : ∀ b, w.heap.size ≤ b → A b)
  (h : VQ P nn l.toArray (fun w' => Kp Dw w w') (fun a' => ∃ E' vs, Has nn a' E' ∧ (als.all fun p => (E'.get p.1).isNone) = true ∧ evs E' (xs.map fun p => Operand.tmp p.1) = some vs ∧ Fits als vs ∧
   ∀ (b : Nat → Nat) (w' : World) (A' : Nat → Prop), Hp B A' w' (objV als vs b 0 ++ L) → Tr Dw B A w A' w' → ∀ a'', Has nn a'' (envB als b 0 ++ E') → Q .normal a'' w') (l.take k) E) :
  C P nn (.region id l.toArray true) Q E w := by
 intro a ha
 simp only [defB, Bool.and_eq_true] at hall
 obtain ⟨⟨⟨⟨hsel, hh⟩, hxd⟩, hback⟩, hlex⟩ := hall
 refine wpIn_region_any hm ?_
 have hgetf : ∀ i d, (((List.range l.toArray.size).map fun i => decide (k ≤ i ∧ i < l.toArray.size)).toArray).getD i d = if k ≤ i ∧ i < l.toArray.size then true else (Array.replicate l.toArray.size false).getD i d := by
  intro i d
  rcases Nat.lt_or_ge i l.toArray.size with hi | hi
  ·have hi' : i < l.length := by simpa using hi
   by_cases hki : k ≤ i
   ·simp [hi', hki]
   ·simp [hi', hki]
  ·have hi' : ¬ i < l.length := by simpa using hi
   rw [if_neg (by omega)]
   simp [hi']
 have hfl : Fl k l.toArray.size (Array.replicate l.toArray.size false) (((List.range l.toArray.size).map fun i => decide (k ≤ i ∧ i < l.toArray.size)).toArray) := ⟨by simp, by rw [Array.size_replicate]; omega, hgetf⟩
 have hflg : Flg l.toArray k (((List.range l.toArray.size).map fun i => decide (k ≤ i ∧ i < l.toArray.size)).toArray) := fun t h1 h2 => by rw [hgetf, if_pos ⟨h1, h2⟩]
 have htl : (l.take k).length = k := by rw [List.length_take]; omega
 have hq := wpAnyLQ_lexF (md := .any) (k := k) hsel (l.take k) 0 _ a (fun j hj => by
  have hj' : j < k := by rw [htl] at hj; exact hj
  simp [hj']) (by simpa using htl) hflg (by rw [htl]; exact hlex) (h a ha)
 rw [htl] at hq
 have hxd' : ∀ x ∈ xs.map (·.1), x ∉ als.map (·.1) := fun x hx => by
  have := List.all_eq_true.1 hxd x hx
  simpa using this
 have key := wpAnyIn_define (ro := nn.ro) (nn := nn) (md := .any) (P := P) (ops := l.toArray) (W := fun w' => Kp Dw w w') (Q := Q) (A := A) (w0 := w) (L := L) (B := B) (als := als) (xs := xs) (by simpa using hN) hsel hal hst hh hback hdd (fun p hp => List.all_eq_true.1 hds p hp) hxd' (fun w' hw' => hw') hB ?_ ?_
  (k + als.length + als.length) k [] [] (List.replicate als.length undef) (Array.replicate l.toArray.size false) _ a { w with drawn := w.drawn + 1 } A (by simp) (by simp) (fun j hj => by cases hj) (by simp) (by simp) (by simp) (by simp) (fun j hj => by cases hj) (fun j hj => by cases hj) hfl (by simp) ha.size
  (fun j hj => by rw [getD_replicate_false]; simp) (fun j hj => by rw [getD_replicate_false]; simp) hq (by
   show Hp B A _ ([] ++ L)
   exact hH.kp (Kp.drew (Dw := Dw) _)) (Kp.tr (Kp.drew (Dw := Dw) w) hA hB) (Kp.drew (Dw := Dw) _)
 ·have e : k + als.length + als.length = l.toArray.size := by simpa using hN
  rw [e] at key
  exact key
 ·rintro a' ⟨E', vs, hE', _, hev, hone, _⟩ j x h' d t z hx hal
  obtain ⟨v, h1, h2⟩ := (evs_get hev).2 j x h' hx
  exact ⟨v, hE'.get x v h2, hone.get hal h1⟩
 ·intro ex aQ vs0 w' A' hnd hlt hlen hvl hvx hL hH' ht
  obtain ⟨E', vs, hE', hnone, hev, hone, hv⟩ := hL
  obtain ⟨hl1, hl2⟩ := evs_get hev
  have hvs : vs0 = vs := by
   apply List.ext_getElem?
   intro j
   rcases Nat.lt_or_ge j als.length with hj | hj
   ·obtain ⟨⟨x, h'⟩, hx⟩ : ∃ p, xs[j]? = some p := ⟨xs[j]'(by omega), List.getElem?_eq_getElem _⟩
    obtain ⟨v, h1, h2⟩ := hl2 j x h' hx
    rw [← hvx j hj x h' hx, hE'.get x v h2, h1]
   ·rw [List.getElem?_eq_none (by omega), List.getElem?_eq_none (by omega)]
  subst hvs
  obtain ⟨b, hb⟩ := lookup_ex hnd
  have hnone' : ∀ (j d : Nat) (t : TypeId) (z : Value), als[j]? = some (d, t, z) → Nat.blt d nn.sz = true ∧ E'.get d = none := by
   intro j d t z hj
   have hm := List.mem_of_getElem? hj
   have h1 := List.all_eq_true.1 hds _ hm
   have h2 := List.all_eq_true.1 hnone _ hm
   exact ⟨h1, Option.isNone_iff_eq_none.1 h2⟩
  obtain ⟨h1, h2⟩ := putA_has hnone' hdd hE' ex hnd hlt
  have hfull : ∀ j, j < als.length → j ∈ ex.map (·.1) := (nodup_lt als.length (ex.map (·.1)) hnd (fun x hx => by
   obtain ⟨p, hp, rfl⟩ := List.mem_map.1 hx
   exact hlt p hp)).2 (by simpa using hlen)
  have hslots : ∀ (j d : Nat) (t : TypeId) (z : Value), als[j]? = some (d, t, z) → (putA als ex aQ).tmps[d]? = some (.pointer (some ⟨b (([] : List (Nat × TypeId × Value)).length + j), 0, none⟩)) := by
   intro j d t z hj
   obtain ⟨p, hp, rfl⟩ := List.mem_map.1 (hfull j (List.getElem?_eq_some_iff.1 hj).1)
   have := h2 p hp d t z hj
   rw [hb p hp] at this
   simpa using this
  have hmap : objSt als vs0 (List.range als.length) ex = (ex.map (·.1)).flatMap fun j => obSt als vs0 (List.range als.length) j (b j) := by
   have : ∀ ex' : List (Nat × Nat), (∀ p ∈ ex', p.2 = b p.1) → objSt als vs0 (List.range als.length) ex' = (ex'.map (·.1)).flatMap fun j => obSt als vs0 (List.range als.length) j (b j) := by
    intro ex'
    induction ex' with
    | nil => intro _; rfl
    | cons p ex' ih =>
     intro hp
     have e1 := ih (fun q hq => hp q (List.mem_cons_of_mem _ hq))
     simp only [objSt, List.flatMap_cons, List.map_cons] at e1 ⊢
     rw [e1, hp p (by simp)]
   exact this ex hb
  have hperm : (objSt als vs0 (List.range als.length) ex).Perm (objV als vs0 b 0) := by
   rw [hmap, show objV als vs0 b 0 = objV als vs0 b ([] : List (Nat × TypeId × Value)).length from rfl, objV_map b als [] vs0 [] rfl (by omega)]
   simp only [List.length_nil, List.nil_append]
   refine List.Perm.flatMap_right _ ?_
   rw [← List.range_eq_range']
   refine (List.perm_ext_iff_of_nodup hnd List.nodup_range).2 fun j => ?_
   constructor
   ·intro hj
    obtain ⟨p, hp, rfl⟩ := List.mem_map.1 hj
    exact List.mem_range.2 (hlt p hp)
   ·intro hj
    exact hfull j (List.mem_range.1 hj)
  have hH2 : Hp B A' w' (objV als vs0 b 0 ++ L) := hH'.perm (hperm.append_right L)
  have := hv b w' A' hH2 ht _ (envB_has h1 als [] hslots)
  exact this
end
end Go.Gw
