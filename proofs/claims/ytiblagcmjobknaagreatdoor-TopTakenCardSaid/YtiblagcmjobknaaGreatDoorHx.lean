import Derived.Test.YtiblagcmjobknaaGreatDoorHu
namespace Go.Gw
open Go Go.RowKit Go.Pu
variable {Dw : Prop}
set_option linter.unusedSimpArgs false
set_option linter.unusedVariables false
section
variable {P : Program} {ops : Array Oper} {md : Region.Mode}
def chA (Dw : Prop) (P : Program) (ops : Array Oper) (ro : Option Nat) (A : Nat → Prop) (T : Act → World → Prop) : Nat → List Nat → Act → World → Prop
 | 0, _, a, w => T a w
 | n + 1, zs, a, w => ∀ z ∈ zs, wpOpIn (FR ro) 0 P ops QF z (fun a' w' => sw Dw A 2 w w' ∧ chA Dw P ops ro A T n (zs.erase z) a' w') a w
def chM (Dw : Prop) (P : Program) (ops : Array Oper) (ro : Option Nat) (A : Nat → Prop) (T : Act → World → Prop) (n : Nat) (zs : List Nat) : List (Nat × Nat) → Act → World → Prop
 | [], a, w => chA Dw P ops ro A T n zs a w
 | (b, i) :: c, a, w => qOp P ops (fun w' => cls Dw A b w w') i (fun a' => chM Dw P ops ro A T n zs c a' w) a
theorem zgD {ro : Option Nat} {A : Nat → Prop} {T : Act → World → Prop} {n m i bi : Nat} {zs : List Nat} (hbi : bi < 2) {post c2 : List (Nat × Nat)} {w : World} {oi : Oper} (hsel : Region.noSelect ops = true) (ho : ops[i]? = some oi) (hpi : je oi = true) :
  ∀ (pre : List (Nat × Nat)) (a : Act), ChP md ops n (pre ++ (bi, i) :: (post ++ c2)) → (∀ u ∈ pre, u.1 < 2) → (∀ e ∈ oi.after, Region.binds md e = true → e.on ∉ idxs (pre ++ (bi, i) :: (post ++ c2))) → chM Dw P ops ro A T m zs (pre ++ (bi, i) :: post) a w →
   qOp P ops (fun w' => w' = w) i (fun a' => chM Dw P ops ro A T m zs (pre ++ post) a' w) a
 | [], a, _, _, _, h => by
  have h1 : qOp P ops (fun w' => cls Dw A bi w w') i (fun a' => chM Dw P ops ro A T m zs post a' w) a := h
  obtain ⟨v, hy, hK⟩ := yieldsIn_of_qOp ho h1
  exact (Jy hpi (fun w' e => by subst e; exact zay) hy).qOp ho hK
 | (b, x) :: pre, a, hg, hq, hno, h => by
  have hb : b < 2 := hq (b, x) (by simp)
  obtain ⟨_, _, ⟨ox, hox, _, _, h4⟩, h5⟩ := hg
  have hap' : ox.apart ops oi = true := (zdt (n := n) (b := bi) (c := pre ++ (bi, i) :: (post ++ c2)) hox ho (by simp) (fun e he hb hm => hno e he hb (by simpa [idxs] using hm)) (h4 hb).2).1
  have h6 : qOp P ops (fun w' => cls Dw A b w w') x (fun a' => chM Dw P ops ro A T m zs (pre ++ (bi, i) :: post) a' w) a := h
  obtain ⟨v, hy, hK⟩ := yieldsIn_of_qOp hox h6
  have ih := zgD hbi hsel ho hpi pre _ h5 (fun u hu => hq u (List.mem_cons_of_mem _ hu)) (fun e he hb hm => hno e he hb (by simp only [List.cons_append, idxs, List.map_cons, List.mem_cons]; exact .inr hm)) hK
  have hy' : YieldsIn P ops (fun w' => w' = w) ox v a := Jy (h4 hb).1 (fun w' e => by subst e; exact zay) hy
  have h7 := qOp_put ho hap' (fun cs b => Region.noSelect_spec hsel x ox cs b hox) (fun cs b => Region.noSelect_spec hsel i oi cs b ho) hy' ih
  obtain ⟨v2, hy2, hK2⟩ := yieldsIn_of_qOp ho h7
  refine hy2.qOp ho ?_
  obtain ⟨h8, h9, h10⟩ := Oper.apart_spec hap'
  show chM Dw P ops ro A T m zs ((b, x) :: (pre ++ post)) _ w
  refine YieldsIn.qOp hox ?_ hK2.2
  exact hy.of_same (execOp_put ox (fun cs b => Region.noSelect_spec hsel x ox cs b hox) a oi.dst v2 h10) (wanted_put ox a oi.dst v2 h10)
theorem zhi {ro : Option Nat} {A : Nat → Prop} {T : Act → World → Prop} {n z : Nat} {zs : List Nat} {w : World} {oz : Oper} (hsel : Region.noSelect ops = true) (hz : ops[z]? = some oz) (hnd : JI oz = false) (hzm : z ∈ zs) :
  ∀ (c1 : List (Nat × Nat)) (a : Act), (∀ p ∈ c1, p.1 < 2 ∧ ∃ o, ops[p.2]? = some o ∧ o.apart ops oz = true ∧ je o = true) → chM Dw P ops ro A T (n + 1) zs c1 a w →
   wpOpIn (FR ro) 0 P ops QF z (fun a' w' => sw Dw A 2 w w' ∧ chM Dw P ops ro A T n (zs.erase z) c1 a' w') a w
 | [], a, _, h => h z hzm
 | (b, x) :: c1, a, hq, h => by
  obtain ⟨hb, ox, hox, hap, hpx⟩ := hq (b, x) (by simp)
  have h6 : qOp P ops (fun w' => cls Dw A b w w') x (fun a' => chM Dw P ops ro A T (n + 1) zs c1 a' w) a := h
  obtain ⟨v, hy, hK⟩ := yieldsIn_of_qOp hox h6
  have ih := zhi hsel hz hnd hzm c1 _ (fun p hp => hq p (List.mem_cons_of_mem _ hp)) hK
  have h7 := zgv hz hnd hap (fun cs b => Region.noSelect_spec hsel x ox cs b hox) (fun cs b => Region.noSelect_spec hsel z oz cs b hz) hy ih
  refine wpOpIn_mono (fun a' w' ⟨q1, q2, q3⟩ => ⟨q2, ?_⟩) h7
  show qOp P ops (fun w2 => cls Dw A b w' w2) x (fun a2 => chM Dw P ops ro A T n (zs.erase z) c1 a2 w') a'
  refine YieldsIn.qOp hox ?_ q3
  exact Jy hpx (fun w2 h2 => zkj hb (by decide) (by simp [zcc]) q2 h2) q1
theorem zkg {ro : Option Nat} {A : Nat → Prop} {T T0 : Act → World → Prop} {c2 : List (Nat × Nat)} {zs : List Nat} {w : World} (hT : ∀ a w, T a w → chOK Dw P ops ro A T0 c2 a w) :
  ∀ (c1 : List (Nat × Nat)) (a : Act), (∀ p ∈ c1, p.1 < 2 ∧ ∃ o, ops[p.2]? = some o) → chM Dw P ops ro A T 0 zs c1 a w → chOK Dw P ops ro A T0 (c1 ++ c2) a w
 | [], a, _, h => hT a w h
 | (b, x) :: c1, a, hq, h => by
  obtain ⟨hb, ox, hox⟩ := hq (b, x) (by simp)
  have h6 : qOp P ops (fun w' => cls Dw A b w w') x (fun a' => chM Dw P ops ro A T 0 zs c1 a' w) a := h
  obtain ⟨v, hy, hK⟩ := yieldsIn_of_qOp hox h6
  simp only [List.cons_append, chOK, if_pos hb]
  exact hy.qOp hox (zkg hT c1 _ (fun p hp => hq p (List.mem_cons_of_mem _ hp)) hK)
theorem zie {ro : Option Nat} {A : Nat → Prop} {Q : Exit → Act → World → Prop} {T T0 : Act → World → Prop} {c2 : List (Nat × Nat)} (hsel : Region.noSelect ops = true)
  (hT0 : ∀ a w, T0 a w → wpListIn (FR ro) 0 P ops Q (ops.toList.drop ops.size) a w) (hT : ∀ a w, T a w → chOK Dw P ops ro A T0 c2 a w) :
  ∀ (m : Nat) (zs : List Nat) (c1 : List (Nat × Nat)) (listed : Array Bool) (a : Act) (w : World), zs.length + (c1.length + c2.length) = m → zs.Nodup → ChP md ops ops.size (c1 ++ c2) → (∀ z ∈ zs, z < ops.size ∧ z ∉ idxs (c1 ++ c2)) →
   (∀ z ∈ zs, ∃ oz, ops[z]? = some oz ∧ JI oz = false ∧ (∀ e ∈ oz.after, Region.binds md e = true → e.on < ops.size ∧ e.on ∉ zs ∧ e.on ∉ idxs c2) ∧
    ∀ p ∈ c1, (∃ e ∈ oz.after, Region.binds md e = true ∧ e.on = p.2) ∨ ∃ o, ops[p.2]? = some o ∧ o.apart ops oz = true) →
   (∀ p ∈ c1, p.1 < 2 ∧ ∃ o, ops[p.2]? = some o ∧ je o = true ∧ ∀ e ∈ o.after, Region.binds md e = true → e.on ∉ zs) →
   (∀ z ∈ zs, ∀ j ∈ idxs c2, ∃ oj, ops[j]? = some oj ∧ ∃ e ∈ oj.after, Region.binds md e = true ∧ (e.on = z ∨ e.on ∈ idxs c2)) →
   (∀ i, i < ops.size → (listed.getD i false = false ↔ i ∈ zs ∨ i ∈ idxs (c1 ++ c2))) → HeadInv md ops ops.size listed →
   chM Dw P ops ro A T zs.length zs c1 a w → wpAnyIn (FR ro) 0 P md ops Q m listed a w := by
 have fin : ∀ (c1 : List (Nat × Nat)) (listed : Array Bool) (a : Act) (w : World) (m : Nat), c1.length + c2.length = m → ChP md ops ops.size (c1 ++ c2) → (∀ p ∈ c1, p.1 < 2 ∧ ∃ o, ops[p.2]? = some o) →
   (∀ i, i < ops.size → (listed.getD i false = false ↔ i ∈ idxs (c1 ++ c2))) → HeadInv md ops ops.size listed → chM Dw P ops ro A T 0 [] c1 a w → wpAnyIn (FR ro) 0 P md ops Q m listed a w := by
  intro c1 listed a w m hl hg hq hin hinv h
  have h2 := zfO (ro := ro) (A := A) (md := md) (P := P) (ops := ops) (Q := Q) (n := ops.size) (T := T0) hsel (Nat.le_refl _) (fun h => absurd h (Nat.lt_irrefl _)) (fun listed hsz q1 q2 => by
   rw [Nat.sub_self]
   simp [Region.seqB, zjx q1]) hT0 m (c1 ++ c2) listed a w (by simp; omega) hg hin hinv (zkg hT c1 a hq h)
  simpa using h2
 intro m
 induction m with
 | zero =>
  intro zs c1 listed a w hl hnd hg hzc hz hq hc2 hin hinv h
  have e0 : zs = [] := List.eq_nil_of_length_eq_zero (by omega)
  subst e0
  exact fin c1 listed a w 0 (by simpa using hl) hg (fun p hp => ⟨(hq p hp).1, (hq p hp).2.imp fun o ho => ho.1⟩) (fun i hi => by rw [hin i hi]; simp) hinv h
 | succ m ih =>
  intro zs c1 listed a w hl hnd hg hzc hz hq hc2 hin hinv h
  cases hzs : zs with
  | nil =>
   subst hzs
   exact fin c1 listed a w (m + 1) (by simpa using hl) hg (fun p hp => ⟨(hq p hp).1, (hq p hp).2.imp fun o ho => ho.1⟩) (fun i hi => by rw [hin i hi]; simp) hinv h
  | cons z0 zs0 =>
  have hz0 : z0 ∈ zs := by rw [hzs]; exact List.mem_cons_self
  have on_ : ∀ k, k < ops.size → k ∉ zs → k ∉ idxs (c1 ++ c2) → listed.getD k false = true := fun k hk h1 h2 => by
   cases hb : listed.getD k false with
   | true => rfl
   | false => exact ((hin k hk).1 hb).elim (fun h => absurd h h1) (fun h => absurd h h2)
  have hrdy : Region.ready md ops listed ≠ [] := by
   intro he
   cases hc1 : c1 with
   | nil =>
    obtain ⟨oz, hoz, _, hd, _⟩ := hz z0 hz0
    have : z0 ∈ Region.ready md ops listed := mem_ready.2 ⟨getD_in (by rw [hinv.size]; exact (hzc z0 hz0).1) ((hin z0 (hzc z0 hz0).1).2 (.inl hz0)), oz, hoz, fun e he hb => by
     obtain ⟨q1, q2, q3⟩ := hd e he hb
     exact on_ _ q1 q2 (by rw [hc1]; exact q3)⟩
    rw [he] at this
    exact absurd this (by simp)
   | cons p c1' =>
    obtain ⟨b, x⟩ := p
    rw [hc1] at hg hq hin on_
    obtain ⟨hx, hxn, ⟨ox, hox, hdx, _⟩, _⟩ := hg
    obtain ⟨_, o2, ho2, _, hz2⟩ := hq (b, x) (by simp)
    obtain rfl : ox = o2 := Option.some.inj (hox.symm.trans ho2)
    have : x ∈ Region.ready md ops listed := mem_ready.2 ⟨getD_in (by rw [hinv.size]; exact hx) ((hin x hx).2 (.inr (by simp [idxs]))), ox, hox, fun e he hb => by
     obtain ⟨q1, q2, q3⟩ := hdx e he hb
     refine on_ _ q1 (hz2 e he hb) ?_
     simp only [List.cons_append, idxs, List.map_cons, List.mem_cons, not_or]
     exact ⟨q2, q3⟩⟩
    rw [he] at this
    exact absurd this (by simp)
  refine ⟨fun he => absurd he hrdy, fun i hi => ?_⟩
  obtain ⟨hui, o, ho, hdep⟩ := mem_ready.1 hi
  have hlt : i < ops.size := (Array.getElem?_eq_some_iff.1 ho).1
  have hno : ∀ e ∈ o.after, Region.binds md e = true → e.on ∉ zs ∧ e.on ∉ idxs (c1 ++ c2) := fun e he hb => by
   have h1 := hdep e he hb
   have hl2 : e.on < ops.size := by
    rcases Nat.lt_or_ge e.on ops.size with h2 | h2
    ·exact h2
    ·simp [Array.getElem?_eq_none (show listed.size ≤ e.on by rw [hinv.size]; exact h2)] at h1
   refine ⟨fun hm => ?_, fun hm => ?_⟩
   ·rw [(hin _ hl2).2 (.inl hm)] at h1
    cases h1
   ·rw [(hin _ hl2).2 (.inr hm)] at h1
    cases h1
  by_cases hiz : i ∈ zs
  ·obtain ⟨oz, hoz, hnd1, _, hap⟩ := hz i hiz
   obtain rfl : oz = o := Option.some.inj (hoz.symm.trans ho)
   have hlen : zs.length = (zs.erase i).length + 1 := by
    rw [List.length_erase_of_mem hiz]
    have := List.length_pos_of_mem hiz
    omega
   rw [hlen] at h
   have hf := zhi hsel hoz hnd1 hiz c1 a (fun p hp => by
    obtain ⟨q1, o2, q2, q3, _⟩ := hq p hp
    refine ⟨q1, o2, q2, ?_, q3⟩
    rcases hap p hp with ⟨e, he, hb, hon⟩ | ⟨o3, r1, r2⟩
    ·refine absurd ?_ (hno e he hb).2
     rw [hon, zab]
     exact List.mem_append_left _ (List.mem_map_of_mem hp)
    ·obtain rfl : o2 = o3 := Option.some.inj (q2.symm.trans r1)
     exact r2) h
   refine wpOpIn_mono (fun a' w' ⟨_, h'⟩ => ?_) (zlc hf)
   have hsub : ∀ z ∈ zs.erase i, z ∈ zs := fun z hz => List.mem_of_mem_erase hz
   refine ih (zs.erase i) c1 (listed.setIfInBounds i true) a' w' (by omega) (hnd.erase i) hg (fun z hz' => hzc z (hsub z hz')) (fun z hz' => ?_) (fun p hp => ?_) (fun z hz' => hc2 z (hsub z hz')) (fun j hj => ?_) (hinv.set hi hlt) h'
   ·obtain ⟨oz', r1, r2, r3, r4⟩ := hz z (hsub z hz')
    exact ⟨oz', r1, r2, fun e he hb => ⟨(r3 e he hb).1, fun hm => (r3 e he hb).2.1 (hsub _ hm), (r3 e he hb).2.2⟩, r4⟩
   ·obtain ⟨q1, o2, q2, q3, q4⟩ := hq p hp
    exact ⟨q1, o2, q2, q3, fun e he hb hm => q4 e he hb (hsub _ hm)⟩
   ·by_cases hji : j = i
    ·subst hji
     have hlt2 : j < listed.size := by rw [hinv.size]; exact hj
     have h1 : j ∉ zs.erase j := fun hm => (List.Nodup.not_mem_erase hnd) hm
     simp only [h1, (hzc j hiz).2, or_self, iff_false]
     simp [hlt2]
    ·rw [getD_set_ne false (Ne.symm hji), hin j hj]
     rw [List.mem_erase_of_ne hji]
  ·have hic : i ∈ idxs (c1 ++ c2) := ((hin i hlt).1 (getD_both hui)).resolve_left hiz
   have hic1 : i ∈ idxs c1 := by
    rw [zab, List.mem_append] at hic
    rcases hic with h1 | h1
    ·exact h1
    ·obtain ⟨oj, hoj, e, he, hb, hon⟩ := hc2 z0 hz0 i h1
     obtain rfl : o = oj := Option.some.inj (ho.symm.trans hoj)
     obtain ⟨q1, q2⟩ := hno e he hb
     rcases hon with h2 | h2
     ·exact absurd (by rw [h2]; exact hz0) q1
     ·exact absurd (by rw [zab]; exact List.mem_append_right _ h2) q2
   obtain ⟨pre, b, post, hc1, hqq⟩ := zgN c1 hg hic1 ⟨o, ho, fun e he hb => (hno e he hb).2⟩
   subst hc1
   have e0 : pre ++ (b, i) :: post ++ c2 = pre ++ (b, i) :: (post ++ c2) := by simp
   have hg0 := hg
   rw [e0] at hg0
   have hno' : ∀ e ∈ o.after, Region.binds md e = true → e.on ∉ idxs (pre ++ (b, i) :: (post ++ c2)) := fun e he hb => by rw [← e0]; exact (hno e he hb).2
   have hg' := zfV (x := (b, i)) ho hqq hno' hg0
   rw [← List.append_assoc] at hg'
   have hnd2 : i ∉ idxs (pre ++ post ++ c2) := by
    rw [List.append_assoc]
    have key : ∀ (pre : List (Nat × Nat)), ChP md ops ops.size (pre ++ (b, i) :: (post ++ c2)) → i ∉ idxs (pre ++ (post ++ c2)) := by
     intro pre
     induction pre with
     | nil => exact fun h => h.2.1
     | cons p pre ihp =>
      obtain ⟨b', x⟩ := p
      intro h
      have h1 := ihp h.2.2.2
      have h2 := h.2.1
      simp only [List.cons_append, idxs, List.map_cons, List.mem_cons, not_or]
      refine ⟨fun e => h2 (by subst e; simp [idxs]), h1⟩
    exact key pre hg0
   have hsub : ∀ j, j ∈ idxs (pre ++ post ++ c2) → j ∈ idxs (pre ++ (b, i) :: post ++ c2) := fun j hj => by
    simp only [idxs, List.map_append, List.mem_append, List.map_cons, List.mem_cons] at hj ⊢
    rcases hj with (h1 | h1) | h1
    ·exact .inl (.inl h1)
    ·exact .inl (.inr (.inr h1))
    ·exact .inr h1
   have hsubp : ∀ p, p ∈ pre ++ post → p ∈ pre ++ (b, i) :: post := fun p hp => by
    rcases List.mem_append.1 hp with h1 | h1
    ·exact List.mem_append_left _ h1
    ·exact List.mem_append_right _ (List.mem_cons_of_mem _ h1)
   have next : ∀ a' w', chM Dw P ops ro A T zs.length zs (pre ++ post) a' w' → wpAnyIn (FR ro) 0 P md ops Q m (listed.setIfInBounds i true) a' w' := fun a' w' h' =>
    ih zs (pre ++ post) _ a' w' (by simp at hl ⊢; omega) hnd hg' (fun z hz' => ⟨(hzc z hz').1, fun hm => (hzc z hz').2 (hsub _ hm)⟩) (fun z hz' => by
     obtain ⟨oz', r1, r2, r3, r4⟩ := hz z hz'
     exact ⟨oz', r1, r2, r3, fun p hp => r4 p (hsubp p hp)⟩) (fun p hp => hq p (hsubp p hp)) hc2 (fun j hj => by
     by_cases hji : j = i
     ·subst hji
      have hlt2 : j < listed.size := by rw [hinv.size]; exact hj
      simp only [hnd2, hiz, or_self, iff_false]
      simp [hlt2]
     ·rw [getD_set_ne false (Ne.symm hji), hin j hj]
      simp only [zab, List.mem_append]
      simp [idxs, hji]) (hinv.set hi hlt) h'
   obtain ⟨hb, o2, ho2, hpo, _⟩ := hq (b, i) (by simp)
   obtain rfl : o = o2 := Option.some.inj (ho.symm.trans ho2)
   exact zkt ho hpo (zgD hb hsel ho hpo pre a hg0 hqq hno' h) fun a' h' => next a' w h'
def chmB (md : Region.Mode) (ops : Array Oper) (zs : List Nat) (c1 c2 : List (Nat × Nat)) : Bool :=
 Region.noSelect ops && decide (zs.length + (c1.length + c2.length) = ops.size) && decide zs.Nodup && chG md ops ops.size (c1 ++ c2) && ((List.range ops.size).all fun i => zs.contains i || (idxs (c1 ++ c2)).contains i) &&
  (zs.all fun z => decide (z < ops.size) && !(idxs (c1 ++ c2)).contains z) &&
  (zs.all fun z => match ops[z]? with
  | none => false
  | some oz => !JI oz && (oz.after.all fun e => !Region.binds md e || (decide (e.on < ops.size) && !zs.contains e.on && !(idxs c2).contains e.on)) && c1.all fun p => (oz.after.any fun e => Region.binds md e && e.on == p.2) || match ops[p.2]? with
   | none => false
   | some o => o.apart ops oz) &&
  (c1.all fun p => decide (p.1 < 2) && match ops[p.2]? with
   | none => false
   | some o => je o && o.after.all fun e => !Region.binds md e || !zs.contains e.on) &&
  zs.all fun z => (idxs c2).all fun j => match ops[j]? with
   | none => false
   | some oj => oj.after.any fun e => Region.binds md e && (e.on == z || (idxs c2).contains e.on)
def CHM (Dw : Prop) (P : Program) (nn : Fr) (ops : Array Oper) (A : Nat → Prop) (T : Act → World → Prop) (n : Nat) (zs : List Nat) (c : List (Nat × Nat)) (E : Env) (w : World) : Prop := ∀ a, Has nn a E → chM Dw P ops nn.ro A T n zs c a w
def CHA (Dw : Prop) (P : Program) (nn : Fr) (ops : Array Oper) (A : Nat → Prop) (T : Act → World → Prop) (n : Nat) (zs : List Nat) (E : Env) (w : World) : Prop := ∀ a, Has nn a E → chA Dw P ops nn.ro A T n zs a w
end
section
variable {P : Program} {nn : Fr} {Q : Exit → Act → World → Prop} {A : Nat → Prop} {T : Act → World → Prop} {E : Env} {w w0 : World} {l tl r : List Oper} {o : Oper} {c c2 : List (Nat × Nat)} {i n id : Nat} {zs : List Nat}
theorem zeA (A : Nat → Prop) (T : World → Act → World → Prop) (zs : List Nat) (c1 c2 : List (Nat × Nat)) (hm : P.follows .mixedOrders = true) (hB : chmB .any l.toArray zs c1 c2 = true)
  (h : ∀ w1, Kp Dw w w1 → CHM Dw P nn l.toArray A (T w1) zs.length zs c1 E w1)
  (hT : ∀ w1, Kp Dw w w1 → ∀ a' w', T w1 a' w' → chOK Dw P l.toArray nn.ro A (fun a' w' => wpListIn (FR nn.ro) 0 P l.toArray Q [] a' w') c2 a' w') : C P nn (.region id l.toArray true) Q E w := by
 intro a ha
 refine wpIn_region_any hm ?_
 simp only [chmB, Bool.and_eq_true, decide_eq_true_eq] at hB
 obtain ⟨⟨⟨⟨⟨⟨⟨⟨h1, h2⟩, h3⟩, h4⟩, h5⟩, h6⟩, h7⟩, h8⟩, h9⟩ := hB
 have key := zie (ro := nn.ro) (A := A) (md := .any) (P := P) (ops := l.toArray) (Q := Q) (c2 := c2) (T := T { w with drawn := w.drawn + 1 }) (T0 := fun a' w' => wpListIn (FR nn.ro) 0 P l.toArray Q [] a' w') h1 (fun a w h => by simpa using h) (hT _ (Kp.drew (Dw := Dw) _))
  (zs.length + (c1.length + c2.length)) zs c1 (Array.replicate l.toArray.size false) a { w with drawn := w.drawn + 1 } rfl h3 (zhk h4)
  (fun z hz => by
   have := List.all_eq_true.1 h6 z hz
   simpa using this)
  (fun z hz => by
   have := List.all_eq_true.1 h7 z hz
   cases hoz : l.toArray[z]? with
   | none => rw [hoz] at this; cases this
   | some oz =>
    rw [hoz] at this
    simp only [Bool.and_eq_true] at this
    obtain ⟨⟨q1, q2⟩, q3⟩ := this
    refine ⟨oz, rfl, by simpa using q1, fun e he hb => ?_, fun p hp => ?_⟩
    ·have := Array.all_eq_true'.1 q2 e he
     simp only [hb, Bool.not_true, Bool.false_or, Bool.and_eq_true, decide_eq_true_eq] at this
     exact ⟨this.1.1, by simpa using this.1.2, by simpa using this.2⟩
    ·have := List.all_eq_true.1 q3 p hp
     rw [Bool.or_eq_true] at this
     rcases this with h | h
     ·obtain ⟨q, hq, h7⟩ := Array.any_eq_true.1 h
      simp only [Bool.and_eq_true, beq_iff_eq] at h7
      exact .inl ⟨_, Array.getElem_mem hq, h7⟩
     ·cases hoj : l.toArray[p.2]? with
      | none => rw [hoj] at h; cases h
      | some oj => rw [hoj] at h; exact .inr ⟨oj, rfl, h⟩)
  (fun p hp => by
   have := List.all_eq_true.1 h8 p hp
   rw [Bool.and_eq_true, decide_eq_true_eq] at this
   refine ⟨this.1, ?_⟩
   have h := this.2
   cases hoj : l.toArray[p.2]? with
   | none => rw [hoj] at h; cases h
   | some oj =>
    rw [hoj] at h
    simp only [Bool.and_eq_true] at h
    refine ⟨oj, rfl, h.1, fun e he hb => ?_⟩
    have := Array.all_eq_true'.1 h.2 e he
    simpa [hb] using this)
  (fun z hz j hj => by
   have := List.all_eq_true.1 (List.all_eq_true.1 h9 z hz) j hj
   cases hoj : l.toArray[j]? with
   | none => rw [hoj] at this; cases this
   | some oj =>
    rw [hoj] at this
    obtain ⟨q, hq, h7⟩ := Array.any_eq_true.1 this
    simp only [Bool.and_eq_true, Bool.or_eq_true, beq_iff_eq, List.contains_iff_mem] at h7
    exact ⟨oj, rfl, _, Array.getElem_mem hq, h7⟩)
  (fun i hi => by
   rw [getD_replicate_false]
   have := List.all_eq_true.1 h5 i (List.mem_range.2 hi)
   simpa using this)
  ⟨by simp, fun j oj _ hl => (by rw [getD_replicate_false] at hl; cases hl), fun t _ ht => getD_in (by simpa using ht) (getD_replicate_false _ _)⟩
  (h _ (Kp.drew (Dw := Dw) _) a ha)
 rw [h2] at key
 exact key
theorem Qy (hd : l.drop i = o :: r) (h : VQ P nn l.toArray (fun w' => Kp Dw w w') (fun a' => chM Dw P l.toArray nn.ro A T n zs c a' w) [o] E) : CHM Dw P nn l.toArray A T n zs ((0, i) :: c) E w := by
 intro a ha
 show qOp P l.toArray (fun w' => Kp Dw w w') i _ a
 unfold qOp
 simp only [zaZ hd]
 exact h a ha
theorem zde (hd : l.drop i = o :: r) (h : VQ P nn l.toArray (fun w' => XA A w w') (fun a' => chM Dw P l.toArray nn.ro A T n zs c a' w) [o] E) : CHM Dw P nn l.toArray A T n zs ((1, i) :: c) E w := by
 intro a ha
 show qOp P l.toArray (fun w' => XA A w w') i _ a
 unfold qOp
 simp only [zaZ hd]
 exact h a ha
theorem qm {W : World → Prop} (h : CHM Dw P nn l.toArray A T n zs c E w) : VQ P nn l.toArray W (fun a' => chM Dw P l.toArray nn.ro A T n zs c a' w) [] E := fun a ha => wpQuiet_nil (h a ha)
theorem ziL (h : CHA Dw P nn l.toArray A T n zs E w) : CHM Dw P nn l.toArray A T n zs [] E w := h
theorem zcr (h : ∀ a, Has nn a E → T a w) : CHA Dw P nn l.toArray A T 0 zs E w := h
theorem zco {x : Nat} {ox : Oper} {rx : List Oper} (hx : l.drop x = ox :: rx) (e1 : [x].erase x = []) (h1 : V P nn l.toArray (Exit.then (fun a' w' => sw Dw A (0 + 2) w w' ∧ chA Dw P l.toArray nn.ro A T n [] a' w') QF) [ox] E w) : CHA Dw P nn l.toArray A T (n + 1) [x] E w := by
 intro a ha z hz
 rw [List.mem_singleton] at hz
 subst hz
 rw [e1]
 exact zbS hx h1 a ha
theorem zhf {x y : Nat} {ox oy : Oper} {rx ry : List Oper} (hx : l.drop x = ox :: rx) (hy : l.drop y = oy :: ry) (e1 : [x, y].erase x = [y]) (e2 : [x, y].erase y = [x])
  (h1 : V P nn l.toArray (Exit.then (fun a' w' => sw Dw A (0 + 2) w w' ∧ chA Dw P l.toArray nn.ro A T n [y] a' w') QF) [ox] E w) (h2 : V P nn l.toArray (Exit.then (fun a' w' => sw Dw A (0 + 2) w w' ∧ chA Dw P l.toArray nn.ro A T n [x] a' w') QF) [oy] E w) : CHA Dw P nn l.toArray A T (n + 1) [x, y] E w := by
 intro a ha z hz
 simp only [List.mem_cons, List.not_mem_nil, or_false] at hz
 rcases hz with rfl | rfl
 ·rw [e1]; exact zbS hx h1 a ha
 ·rw [e2]; exact zbS hy h2 a ha
theorem zmc {x y u : Nat} {ox oy ou : Oper} {rx ry ru : List Oper} (hx : l.drop x = ox :: rx) (hy : l.drop y = oy :: ry) (hu : l.drop u = ou :: ru) (e1 : [x, y, u].erase x = [y, u]) (e2 : [x, y, u].erase y = [x, u]) (e3 : [x, y, u].erase u = [x, y])
  (h1 : V P nn l.toArray (Exit.then (fun a' w' => sw Dw A (0 + 2) w w' ∧ chA Dw P l.toArray nn.ro A T n [y, u] a' w') QF) [ox] E w) (h2 : V P nn l.toArray (Exit.then (fun a' w' => sw Dw A (0 + 2) w w' ∧ chA Dw P l.toArray nn.ro A T n [x, u] a' w') QF) [oy] E w)
  (h3 : V P nn l.toArray (Exit.then (fun a' w' => sw Dw A (0 + 2) w w' ∧ chA Dw P l.toArray nn.ro A T n [x, y] a' w') QF) [ou] E w) : CHA Dw P nn l.toArray A T (n + 1) [x, y, u] E w := by
 intro a ha z hz
 simp only [List.mem_cons, List.not_mem_nil, or_false] at hz
 rcases hz with rfl | rfl | rfl
 ·rw [e1]; exact zbS hx h1 a ha
 ·rw [e2]; exact zbS hy h2 a ha
 ·rw [e3]; exact zbS hu h3 a ha
theorem jA (hk : Kp Dw w0 w) (h : CHA Dw P nn l.toArray A T n zs E w) : V P nn l.toArray (Exit.then (fun a' w' => sw Dw A (0 + 2) w0 w' ∧ chA Dw P l.toArray nn.ro A T n zs a' w') QF) [] E w := fun a ha => wpListIn_nil ⟨⟨fun _ => hk, fun h => absurd h (by decide)⟩, h a ha⟩
end
section
variable {P : Program} {n : Fr} {ops : Array Oper} {Q : Exit → Act → World → Prop} {rest : List Oper} {E : Env} {w : World} {B : Nat} {A : Nat → Prop} {L : List Ob} {d : Nat} {ty t : TypeId} {y : Operand} {pos : String} {af : Array Edge} {v : Value}
theorem Hp.newS {α : Type} [GoT α] {e : TypeId} {l : List α} {i : Nat} (h : Hp B A w L) (hi : L[i]? = some (obS e v l)) : ∀ g, v.ownBlock = some g → B ≤ g := by
 obtain ⟨f, hp, hb, _⟩ := h.at hi
 intro g hg
 have := OwP.fp hp
 exact (hb g (by rw [this, hg]; simp)).1
theorem zle (hH : Hp B A w L) (hv : ev E y = some v) (hB : B ≤ w.heap.size) (hA : ∀ b, w.heap.size ≤ b → A b) (hn : Nat.blt d n.sz = true)
  (h : ∀ b w1 A1, Kp Dw w w1 → Hp B A1 w1 (obC b v.cells.toList t :: L) → Tr Dw B A w A1 w1 → V P n ops Q rest ((d, .pointer (some ⟨b, 0, none⟩)) :: E) w1) :
  V P n ops Q (⟨some d, .box t y, ty, pos, af, none⟩ :: rest) E w :=
 V_y (w' := w.alloc (.cells v.cells t)) (v := .pointer (some ⟨w.heap.size, 0, none⟩)) (fun a hA => by simp only [execOp, hA.eval hv, Instr.box]; simp [newVar, newRow]) rfl rfl hn (h _ _ _ (Kp.alloc _ _) (by simpa using hH.alloc (.cells v.cells t) hB hA) ((jN (Dw := Dw) B _ hA).tr hB))
end
end Go.Gw
