import Derived.Test.YtjdjmddclfhpeaaGreatDoorGu
namespace Go.Gw
open Go Go.RowKit Go.Pu
variable {Dw : Prop}
set_option linter.unusedSimpArgs false
set_option linter.unusedVariables false
section
variable {P : Program} {ops : Array Oper} {md : Region.Mode}
def ancB (md : Region.Mode) (ops : Array Oper) : List Nat → List Nat → Bool
 | _, [] => true
 | seen, d :: D => (seen.any fun s => match ops[s]? with
   | none => false
   | some o => o.after.any fun e => Region.binds md e && e.on == d) && ancB md ops (d :: seen) D
theorem anc_of {listed : Array Bool} (hc : ∀ j oj, ops[j]? = some oj → listed.getD j false = true → ∀ e ∈ oj.after, Region.binds md e = true → listed.getD e.on false = true) :
  ∀ (D seen : List Nat), ancB md ops seen D = true → (∀ s ∈ seen, ∀ o, ops[s]? = some o → ∀ e ∈ o.after, Region.binds md e = true → listed.getD e.on false = true) → ∀ d ∈ D, listed.getD d false = true
 | [], _, _, _, d, hd => by cases hd
 | d0 :: D, seen, h, hs, d, hd => by
  simp only [ancB, Bool.and_eq_true] at h
  have h0 : listed.getD d0 false = true := by
   obtain ⟨s, hsm, hs2⟩ := List.any_eq_true.1 h.1
   cases ho : ops[s]? with
   | none => rw [ho] at hs2; cases hs2
   | some o =>
    rw [ho] at hs2
    obtain ⟨q, hq, h7⟩ := Array.any_eq_true.1 hs2
    rw [Bool.and_eq_true, beq_iff_eq] at h7
    have := hs s hsm o ho _ (Array.getElem_mem hq) h7.1
    rwa [h7.2] at this
  rcases List.mem_cons.1 hd with rfl | hd
  ·exact h0
  ·refine anc_of hc D (d0 :: seen) h.2 (fun s hsm o ho e he hb => ?_) d hd
   rcases List.mem_cons.1 hsm with rfl | hsm
   ·exact hc s o ho h0 e he hb
   ·exact hs s hsm o ho e he hb
theorem chZ_quiet2 {ro : Option Nat} {A : Nat → Prop} {T : Act → World → Prop} {n i bi z : Nat} (hbi : bi < 2) {post c2 : List (Nat × Nat)} {w : World} {oi : Oper} (hsel : Region.noSelect ops = true) (ho : ops[i]? = some oi) (hpi : plainQ oi = true) :
  ∀ (pre : List (Nat × Nat)) (a : Act), ChP md ops n (pre ++ (bi, i) :: post) → (∀ y ∈ pre, y.1 < 2) → (∀ e ∈ oi.after, Region.binds md e = true → e.on ∉ idxs (pre ++ (bi, i) :: post)) → chZ Dw P ops ro A T z c2 (pre ++ (bi, i) :: post) a w →
   qOp P ops (fun w' => w' = w) i (fun a' => chZ Dw P ops ro A T z c2 (pre ++ post) a' w) a
 | [], a, _, _, _, h => by
  have h1 : qOp P ops (fun w' => cls Dw A bi w w') i (fun a' => chZ Dw P ops ro A T z c2 post a' w) a := by
   simp only [List.nil_append, chZ, if_pos hbi] at h
   exact h
  obtain ⟨v, hy, hK⟩ := yieldsIn_of_qOp ho h1
  exact (yields_up hpi (fun w' e => by subst e; exact cls_refl) hy).qOp ho hK
 | (b, x) :: pre, a, hg, hq, hno, h => by
  have hb : b < 2 := hq (b, x) (by simp)
  obtain ⟨_, _, ⟨ox, hox, _, _, h4⟩, h5⟩ := hg
  have hap' : ox.apart ops oi = true := (ch_apart (n := n) (b := bi) (c := pre ++ (bi, i) :: post) hox ho (by simp) (fun e he hb hm => hno e he hb (by simpa [idxs] using hm)) (h4 hb).2).1
  have h6 : qOp P ops (fun w' => cls Dw A b w w') x (fun a' => chZ Dw P ops ro A T z c2 (pre ++ (bi, i) :: post) a' w) a := by
   simp only [List.cons_append, chZ, if_pos hb] at h
   exact h
  obtain ⟨v, hy, hK⟩ := yieldsIn_of_qOp hox h6
  have ih := chZ_quiet2 hbi hsel ho hpi pre _ h5 (fun y hy => hq y (List.mem_cons_of_mem _ hy)) (fun e he hb hm => hno e he hb (by simp only [List.cons_append, idxs, List.map_cons, List.mem_cons]; exact .inr hm)) hK
  have hy' : YieldsIn P ops (fun w' => w' = w) ox v a := yields_up (h4 hb).1 (fun w' e => by subst e; exact cls_refl) hy
  have h7 := qOp_put ho hap' (fun cs b => Region.noSelect_spec hsel x ox cs b hox) (fun cs b => Region.noSelect_spec hsel i oi cs b ho) hy' ih
  obtain ⟨v2, hy2, hK2⟩ := yieldsIn_of_qOp ho h7
  refine hy2.qOp ho ?_
  obtain ⟨h8, h9, h10⟩ := Oper.apart_spec hap'
  show chZ Dw P ops ro A T z c2 ((b, x) :: (pre ++ post)) _ w
  simp only [chZ, if_pos hb]
  refine YieldsIn.qOp hox ?_ hK2.2
  exact hy.of_same (execOp_put ox (fun cs b => Region.noSelect_spec hsel x ox cs b hox) a oi.dst v2 h10) (wanted_put ox a oi.dst v2 h10)
theorem chZ_loud2 {ro : Option Nat} {A : Nat → Prop} {T : Act → World → Prop} {n i k z : Nat} (hk2 : 2 ≤ k) {post c2 : List (Nat × Nat)} {w : World} {oi : Oper} (hsel : Region.noSelect ops = true) (ho : ops[i]? = some oi) (hnd : deferO oi = false) :
  ∀ (pre : List (Nat × Nat)) (a : Act), ChP md ops n (pre ++ (k, i) :: post) → (∀ y ∈ pre, y.1 < 2) → (∀ e ∈ oi.after, Region.binds md e = true → e.on ∉ idxs (pre ++ (k, i) :: post)) → chZ Dw P ops ro A T z c2 (pre ++ (k, i) :: post) a w →
   wpOpIn (FR ro) 0 P ops QF i (fun a' w' => sw Dw A k w w' ∧ chZ Dw P ops ro A T z c2 (pre ++ post) a' w') a w
 | [], _, _, _, _, h => by
  simp only [List.nil_append, chZ, if_neg (show ¬ k < 2 by omega)] at h
  exact h.2
 | (b, x) :: pre, a, hg, hq, hno, h => by
  have hb : b < 2 := hq (b, x) (by simp)
  obtain ⟨_, _, ⟨ox, hox, _, _, h4⟩, h5⟩ := hg
  obtain ⟨hap', hwild⟩ := ch_apart (n := n) (b := k) (c := pre ++ (k, i) :: post) hox ho (by simp) (fun e he hb hm => hno e he hb (by simpa [idxs] using hm)) (h4 hb).2
  have h6 : qOp P ops (fun w' => cls Dw A b w w') x (fun a' => chZ Dw P ops ro A T z c2 (pre ++ (k, i) :: post) a' w) a := by
   simp only [List.cons_append, chZ, if_pos hb] at h
   exact h
  obtain ⟨v, hy, hK⟩ := yieldsIn_of_qOp hox h6
  have ih := chZ_loud2 hk2 hsel ho hnd pre _ h5 (fun y hy => hq y (List.mem_cons_of_mem _ hy)) (fun e he hb hm => hno e he hb (by simp only [List.cons_append, idxs, List.map_cons, List.mem_cons]; exact .inr hm)) hK
  have h7 := wpOp_putF ho hnd hap' (fun cs b => Region.noSelect_spec hsel x ox cs b hox) (fun cs b => Region.noSelect_spec hsel i oi cs b ho) hy ih
  refine wpOpIn_mono (fun a' w' ⟨q1, q2, q3⟩ => ⟨q2, ?_⟩) h7
  show chZ Dw P ops ro A T z c2 ((b, x) :: (pre ++ post)) a' w'
  simp only [chZ, if_pos hb]
  refine YieldsIn.qOp hox ?_ q3
  rcases hwild with hc | hf
  ·exact yields_up (h4 hb).1 (fun w2 h2 => cls_up hb hk2 hc q2 h2) q1
  ·exact yields_free (h4 hb).1 hf cls_refl q1
def offD (D : List Nat) (c : List (Nat × Nat)) : List (Nat × Nat) := c.filter fun p => !D.contains p.2
theorem offD_idxs {D : List Nat} {c : List (Nat × Nat)} {j : Nat} (h : j ∈ idxs (offD D c)) : j ∈ idxs c := by
 simp only [idxs, offD, List.mem_map, List.mem_filter] at h ⊢
 obtain ⟨p, ⟨h1, _⟩, rfl⟩ := h
 exact ⟨p, h1, rfl⟩
theorem offD_none {D : List Nat} {c : List (Nat × Nat)} (h : ∀ p ∈ c, p.2 ∉ D) : offD D c = c := by
 unfold offD
 rw [List.filter_eq_self]
 intro p hp
 simpa using h p hp
theorem wpAnyIn_chY {ro : Option Nat} {A : Nat → Prop} {Q : Exit → Act → World → Prop} {T : Act → World → Prop} {z : Nat} {oz : Oper} {c2 : List (Nat × Nat)} {D : List Nat} (hsel : Region.noSelect ops = true)
  (hT : ∀ a w, T a w → wpListIn (FR ro) 0 P ops Q (ops.toList.drop ops.size) a w)
  (hz : ops[z]? = some oz) (hnd : deferO oz = false) (hzd : ∀ e ∈ oz.after, Region.binds md e = true → e.on < ops.size ∧ e.on ≠ z ∧ e.on ∉ idxs c2) (hD : ancB md ops [z] D = true)
  (hc2 : ∀ j ∈ idxs c2, ∃ oj, ops[j]? = some oj ∧ ∃ e ∈ oj.after, Region.binds md e = true ∧ (e.on = z ∨ e.on ∈ idxs c2)) :
  ∀ (m : Nat) (c1 : List (Nat × Nat)) (listed : Array Bool) (a : Act) (w : World), c1.length + c2.length = m → ChP md ops ops.size c1 → ChP md ops ops.size (offD D c1 ++ c2) → z ∉ idxs (c1 ++ c2) →
   (∀ j ∈ idxs c1, ∀ oj, ops[j]? = some oj → ∀ e ∈ oj.after, Region.binds md e = true → e.on ≠ z ∧ e.on ∉ idxs c2) → (∀ p ∈ c1, p.2 ∈ D → p.1 < 2) → (∀ j ∈ idxs c1, j ∉ idxs c2) →
   (∀ p ∈ c1, p.1 < 2 → p.2 ∈ D ∨ ∃ o, ops[p.2]? = some o ∧ o.apart ops oz = true ∧ plainQ o = true) →
   (∀ i, i < ops.size → (listed.getD i false = false ↔ i = z ∨ i ∈ idxs (c1 ++ c2))) → HeadInv md ops ops.size listed →
   chZ Dw P ops ro A T z c2 c1 a w → wpAnyIn (FR ro) 0 P md ops Q (m + 1) listed a w := by
 have hzl : z < ops.size := (Array.getElem?_eq_some_iff.1 hz).1
 have rdy : ∀ (c1 : List (Nat × Nat)) (listed : Array Bool), ChP md ops ops.size c1 → (∀ j ∈ idxs c1, ∀ oj, ops[j]? = some oj → ∀ e ∈ oj.after, Region.binds md e = true → e.on ≠ z ∧ e.on ∉ idxs c2) → (∀ i, i < ops.size → (listed.getD i false = false ↔ i = z ∨ i ∈ idxs (c1 ++ c2))) → HeadInv md ops ops.size listed → Region.ready md ops listed ≠ [] := by
  intro c1 listed hg h1z hin hinv h
  have on_ : ∀ k, k < ops.size → k ≠ z → k ∉ idxs (c1 ++ c2) → listed.getD k false = true := fun k hk h1 h2 => by
   cases hb : listed.getD k false with
   | true => rfl
   | false => exact ((hin k hk).1 hb).elim (fun h => absurd h h1) (fun h => absurd h h2)
  cases c1 with
  | nil =>
   have : z ∈ Region.ready md ops listed := mem_ready.2 ⟨getD_in (by rw [hinv.size]; exact hzl) ((hin z hzl).2 (.inl rfl)), oz, hz, fun e he hb => by
    obtain ⟨q1, q2, q3⟩ := hzd e he hb
    exact on_ _ q1 q2 q3⟩
   rw [h] at this
   exact absurd this (by simp)
  | cons p c1 =>
   obtain ⟨b, x⟩ := p
   obtain ⟨hx, hxn, ⟨ox, hox, hdx, _⟩, _⟩ := hg
   have : x ∈ Region.ready md ops listed := mem_ready.2 ⟨getD_in (by rw [hinv.size]; exact hx) ((hin x hx).2 (.inr (by simp [idxs]))), ox, hox, fun e he hb => by
    obtain ⟨q1, q2, q3⟩ := hdx e he hb
    obtain ⟨r1, r2⟩ := h1z x (by simp [idxs]) ox hox e he hb
    refine on_ _ q1 r1 ?_
    rw [idxs_app, List.mem_append, not_or]
    refine ⟨?_, r2⟩
    simp only [idxs, List.map_cons, List.mem_cons, not_or]
    exact ⟨q2, q3⟩⟩
   rw [h] at this
   exact absurd this (by simp)
 have free : ∀ (c1 : List (Nat × Nat)) (listed : Array Bool) (a : Act) (w : World) (m : Nat), c1.length + c2.length = m → ChP md ops ops.size (offD D c1 ++ c2) → z ∉ idxs (c1 ++ c2) →
   (∀ p ∈ c1, p.1 < 2 → p.2 ∈ D ∨ ∃ o, ops[p.2]? = some o ∧ o.apart ops oz = true ∧ plainQ o = true) → (∀ i, i < ops.size → (listed.getD i false = false ↔ i = z ∨ i ∈ idxs (c1 ++ c2))) → HeadInv md ops ops.size listed →
   (∀ e ∈ oz.after, Region.binds md e = true → listed.getD e.on false = true) → chZ Dw P ops ro A T z c2 c1 a w → z ∈ Region.ready md ops listed → wpOpIn (FR ro) 0 P ops Q z (fun a' w' => wpAnyIn (FR ro) 0 P md ops Q m (listed.setIfInBounds z true) a' w') a w := by
  intro c1 listed a w m hl hg hzc hap hin hinv hdz h hzr
  have hall := anc_of (md := md) (ops := ops) (listed := listed) hinv.closed D [z] hD (fun s hs o ho e he hb => by
   rw [List.mem_singleton] at hs
   subst hs
   obtain rfl : oz = o := Option.some.inj (hz.symm.trans ho)
   exact hdz e he hb)
  have hnone : ∀ p ∈ c1, p.2 ∉ D := fun p hp hd => by
   have h1 := hall p.2 hd
   have hpi : p.2 ∈ idxs (c1 ++ c2) := by
    simp only [idxs, List.map_append, List.mem_append]
    exact .inl (List.mem_map_of_mem hp)
   have hlt2 : p.2 < ops.size := by
    rcases Nat.lt_or_ge p.2 ops.size with h2 | h2
    ·exact h2
    ·simp [Array.getElem?_eq_none (show listed.size ≤ p.2 by rw [hinv.size]; exact h2)] at h1
   rw [(hin p.2 hlt2).2 (.inr hpi)] at h1
   cases h1
  rw [offD_none hnone] at hg
  have hf := chZ_free hsel hz hnd c1 a (fun p hp hlt => (hap p hp hlt).resolve_left (hnone p hp)) h
  refine wpOpIn_mono (fun a' w' ⟨_, h'⟩ => ?_) (wpOpF hf)
  have h2 := wpAnyIn_ch (ro := ro) (A := A) (md := md) (P := P) (ops := ops) (Q := Q) (n := ops.size) (T := T) hsel (Nat.le_refl _) (fun h => absurd h (Nat.lt_irrefl _)) (fun listed hsz q1 q2 => by
   rw [Nat.sub_self]
   simp [Region.seqB, ready_none q1]) hT m (c1 ++ c2) (listed.setIfInBounds z true) a' w' (by simp; omega) hg (fun j hj => by
    by_cases hji : j = z
    ·subst hji
     have hlt2 : j < listed.size := by rw [hinv.size]; exact hj
     simp only [hzc, iff_false]
     simp [hlt2]
    ·rw [getD_set_ne false (Ne.symm hji), hin j hj]
     simp [hji]) (hinv.set hzr hzl) h'
  simpa using h2
 intro m
 induction m with
 | zero =>
  intro c1 listed a w hl hg hg2 hzc h1z hDq h12 hap hin hinv h
  refine ⟨fun he => absurd he (rdy c1 listed hg h1z hin hinv), fun i hi => ?_⟩
  obtain ⟨hui, o, ho, hdep⟩ := mem_ready.1 hi
  have hlt : i < ops.size := (Array.getElem?_eq_some_iff.1 ho).1
  have e1 : c1 = [] := List.eq_nil_of_length_eq_zero (by omega)
  have e2 : c2 = [] := List.eq_nil_of_length_eq_zero (by omega)
  obtain rfl : i = z := by
   rcases (hin i hlt).1 (getD_both hui) with h | h
   ·exact h
   ·rw [e1, e2] at h; simp [idxs] at h
  obtain rfl : oz = o := Option.some.inj (hz.symm.trans ho)
  exact free c1 listed a w 0 hl hg2 hzc hap hin hinv hdep h hi
 | succ m ih =>
  intro c1 listed a w hl hg hg2 hzc h1z hDq h12 hap hin hinv h
  refine ⟨fun he => absurd he (rdy c1 listed hg h1z hin hinv), fun i hi => ?_⟩
  obtain ⟨hui, o, ho, hdep⟩ := mem_ready.1 hi
  have hlt : i < ops.size := (Array.getElem?_eq_some_iff.1 ho).1
  have hno : ∀ e ∈ o.after, Region.binds md e = true → e.on ≠ z ∧ e.on ∉ idxs (c1 ++ c2) := fun e he hb => by
   have h1 := hdep e he hb
   have hl2 : e.on < ops.size := by
    rcases Nat.lt_or_ge e.on ops.size with h2 | h2
    ·exact h2
    ·simp [Array.getElem?_eq_none (show listed.size ≤ e.on by rw [hinv.size]; exact h2)] at h1
   refine ⟨fun hm => ?_, fun hm => ?_⟩
   ·rw [(hin _ hl2).2 (.inl hm)] at h1
    cases h1
   ·rw [(hin _ hl2).2 (.inr hm)] at h1
    cases h1
  by_cases hiz : i = z
  ·subst hiz
   obtain rfl : oz = o := Option.some.inj (hz.symm.trans ho)
   exact free c1 listed a w (m + 1) hl hg2 hzc hap hin hinv hdep h hi
  ·have hic : i ∈ idxs (c1 ++ c2) := ((hin i hlt).1 (getD_both hui)).resolve_left hiz
   have hic1 : i ∈ idxs c1 := by
    rw [idxs_app, List.mem_append] at hic
    rcases hic with h1 | h1
    ·exact h1
    ·obtain ⟨oj, hoj, e, he, hb, hon⟩ := hc2 i h1
     obtain rfl : o = oj := Option.some.inj (ho.symm.trans hoj)
     obtain ⟨q1, q2⟩ := hno e he hb
     rcases hon with h2 | h2
     ·exact absurd h2 q1
     ·exact absurd (by rw [idxs_app]; exact List.mem_append_right _ h2) q2
   have hno1 : ∀ e ∈ o.after, Region.binds md e = true → e.on ∉ idxs c1 := fun e he hb hm => (hno e he hb).2 (by rw [idxs_app]; exact List.mem_append_left _ hm)
   obtain ⟨pre, b, post, rfl, hq⟩ := chz_split (c2 := []) c1 (by rw [List.append_nil]; exact hg) hic1 ⟨o, ho, fun e he hb => by rw [List.append_nil]; exact hno1 e he hb⟩
   have hg' := chP_rem (x := (b, i)) ho hq hno1 hg
   have hg2' : ChP md ops ops.size (offD D (pre ++ post) ++ c2) := by
    by_cases hiD : i ∈ D
    ·have e1 : offD D (pre ++ post) = offD D (pre ++ (b, i) :: post) := by
      unfold offD
      rw [List.filter_append, List.filter_append, List.filter_cons_of_neg (by simpa using hiD)]
     rw [e1]
     exact hg2
    ·have e1 : offD D (pre ++ (b, i) :: post) ++ c2 = offD D pre ++ (b, i) :: (offD D post ++ c2) := by
      unfold offD
      rw [List.filter_append, List.filter_cons_of_pos (by simpa using hiD)]
      simp
     have e2 : offD D (pre ++ post) ++ c2 = offD D pre ++ (offD D post ++ c2) := by
      unfold offD
      rw [List.filter_append, List.append_assoc]
     rw [e2]
     refine chP_rem (x := (b, i)) ho (fun y hy => hq y (List.mem_filter.1 hy).1) (fun e he hb hm => (hno e he hb).2 ?_) (by rw [← e1]; exact hg2)
     rw [← e1, idxs_app, List.mem_append] at hm
     rw [idxs_app, List.mem_append]
     exact hm.imp offD_idxs id
   have hnd1 : i ∉ idxs (pre ++ post) := by
    have key : ∀ (pre : List (Nat × Nat)), ChP md ops ops.size (pre ++ (b, i) :: post) → i ∉ idxs (pre ++ post) := by
     intro pre
     induction pre with
     | nil => exact fun h => h.2.1
     | cons p pre ihp =>
      obtain ⟨b', x⟩ := p
      intro h
      have h1 := ihp h.2.2.2
      have h2 := h.2.1
      simp only [List.cons_append, idxs, List.map_cons, List.mem_cons, not_or]
      refine ⟨fun e => h2 (by subst e; simp [idxs]), h1⟩
    exact key pre hg
   have hnd2 : i ∉ idxs (pre ++ post ++ c2) := by
    rw [idxs_app, List.mem_append, not_or]
    exact ⟨hnd1, h12 i hic1⟩
   have hsub1 : ∀ j, j ∈ idxs (pre ++ post) → j ∈ idxs (pre ++ (b, i) :: post) := fun j hj => by
    simp only [idxs, List.map_append, List.mem_append, List.map_cons, List.mem_cons] at hj ⊢
    rcases hj with h1 | h1
    ·exact .inl h1
    ·exact .inr (.inr h1)
   have hsubp : ∀ p, p ∈ pre ++ post → p ∈ pre ++ (b, i) :: post := fun p hp => by
    rcases List.mem_append.1 hp with h1 | h1
    ·exact List.mem_append_left _ h1
    ·exact List.mem_append_right _ (List.mem_cons_of_mem _ h1)
   have hsub : ∀ j, j ∈ idxs (pre ++ post ++ c2) → j ∈ idxs (pre ++ (b, i) :: post ++ c2) := fun j hj => by
    rw [idxs_app, List.mem_append] at hj ⊢
    exact hj.imp (hsub1 j) id
   have next : ∀ a' w', chZ Dw P ops ro A T z c2 (pre ++ post) a' w' → wpAnyIn (FR ro) 0 P md ops Q (m + 1) (listed.setIfInBounds i true) a' w' := fun a' w' h' =>
    ih (pre ++ post) _ a' w' (by simp at hl ⊢; omega) hg' hg2' (fun h => hzc (hsub _ h)) (fun j hj => h1z j (hsub1 j hj)) (fun p hp => hDq p (hsubp p hp)) (fun j hj => h12 j (hsub1 j hj)) (fun p hp => hap p (hsubp p hp)) (fun j hj => by
     by_cases hji : j = i
     ·subst hji
      have hlt2 : j < listed.size := by rw [hinv.size]; exact hj
      simp only [hnd2, hiz, or_self, iff_false]
      simp [hlt2]
     ·rw [getD_set_ne false (Ne.symm hji), hin j hj]
      simp only [idxs_app, List.mem_append]
      simp [idxs, hji]) (hinv.set hi hlt) h'
   have hgi : ∀ (pre : List (Nat × Nat)), ChP md ops ops.size (pre ++ (b, i) :: post) → (2 ≤ b → deferO o = false) ∧ (b < 2 → plainQ o = true) := by
    intro pre
    induction pre with
    | nil =>
     rintro ⟨_, _, ⟨o', ho', _, q1, q2⟩, _⟩
     have := Option.some.inj (ho.symm.trans ho')
     subst this
     exact ⟨fun h => (q1 h).1, fun h => (q2 h).1⟩
    | cons p pre ihp => exact fun h => ihp h.2.2.2
   rcases Nat.lt_or_ge b 2 with hb | hb
   ·exact wpOp_q ho ((hgi pre hg).2 hb) (chZ_quiet2 hb hsel ho ((hgi pre hg).2 hb) pre a hg hq hno1 h) fun a' h' => next a' w h'
   ·exact wpOpIn_mono (fun a' w' ⟨_, h'⟩ => next a' w' h') (wpOpF (chZ_loud2 hb hsel ho ((hgi pre hg).1 hb) pre a hg hq hno1 h))
def chyB (md : Region.Mode) (ops : Array Oper) (z : Nat) (D : List Nat) (c1 c2 : List (Nat × Nat)) : Bool :=
 Region.noSelect ops && decide (c1.length + c2.length + 1 = ops.size) && chG md ops ops.size c1 && chG md ops ops.size (offD D c1 ++ c2) && ((List.range ops.size).all fun i => (i == z) || (idxs (c1 ++ c2)).contains i) && !(idxs (c1 ++ c2)).contains z &&
  (match ops[z]? with
  | none => false
  | some oz => !deferO oz && (oz.after.all fun e => !Region.binds md e || (decide (e.on < ops.size) && e.on != z && !(idxs c2).contains e.on)) && c1.all fun p => decide (2 ≤ p.1) || D.contains p.2 || match ops[p.2]? with
   | none => false
   | some o => o.apart ops oz && plainQ o) && ancB md ops [z] D &&
  ((idxs c1).all fun j => match ops[j]? with
   | none => true
   | some oj => oj.after.all fun e => !Region.binds md e || (e.on != z && !(idxs c2).contains e.on)) &&
  (c1.all fun p => !D.contains p.2 || decide (p.1 < 2)) && ((idxs c1).all fun j => !(idxs c2).contains j) &&
  (idxs c2).all fun j => match ops[j]? with
   | none => false
   | some oj => oj.after.any fun e => Region.binds md e && (e.on == z || (idxs c2).contains e.on)
end
section
variable {P : Program} {nn : Fr} {Q : Exit → Act → World → Prop} {A : Nat → Prop} {T : Act → World → Prop} {E : Env} {w w0 : World} {l tl r : List Oper} {o : Oper} {c c2 : List (Nat × Nat)} {i n id z : Nat}
theorem V_CHZx (hk : XA A w0 w) (h : CHZ Dw P nn l.toArray A T z c2 c E w) : V P nn l.toArray (Exit.then (fun a' w' => sw Dw A (1 + 2) w0 w' ∧ chZ Dw P l.toArray nn.ro A T z c2 c a' w') QF) [] E w := fun a ha => wpListIn_nil ⟨⟨fun h => absurd h (by decide), fun _ => hk⟩, h a ha⟩
theorem C_region_chy (A : Nat → Prop) (z : Nat) (D : List Nat) (c1 c2 : List (Nat × Nat)) (hm : P.follows .mixedOrders = true) (hB : chyB .any l.toArray z D c1 c2 = true)
  (h : ∀ w1, Kp Dw w w1 → CHZ Dw P nn l.toArray A (fun a' w' => wpListIn (FR nn.ro) 0 P l.toArray Q [] a' w') z c2 c1 E w1) : C P nn (.region id l.toArray true) Q E w := by
 intro a ha
 refine wpIn_region_any hm ?_
 simp only [chyB, Bool.and_eq_true, decide_eq_true_eq] at hB
 obtain ⟨⟨⟨⟨⟨⟨⟨⟨⟨⟨⟨h1, h2⟩, h3⟩, h3b⟩, h4⟩, h5⟩, h6⟩, hD⟩, h1z⟩, hDq⟩, h12⟩, h7⟩ := hB
 cases hoz : l.toArray[z]? with
 | none => rw [hoz] at h6; cases h6
 | some oz =>
  rw [hoz] at h6
  simp only [Bool.and_eq_true] at h6
  obtain ⟨⟨h8, h9⟩, h10⟩ := h6
  have key := wpAnyIn_chY (ro := nn.ro) (A := A) (md := .any) (P := P) (ops := l.toArray) (Q := Q) (c2 := c2) (D := D) (T := fun a' w' => wpListIn (FR nn.ro) 0 P l.toArray Q [] a' w') h1 (fun a w h => by simpa using h) hoz (by simpa using h8)
   (fun e he hb => by
    have := Array.all_eq_true'.1 h9 e he
    rw [hb] at this
    simp only [Bool.not_true, Bool.false_or, Bool.and_eq_true, decide_eq_true_eq, bne_iff_ne, Bool.not_eq_true', List.contains_eq_mem, decide_eq_false_iff_not] at this
    exact ⟨this.1.1, this.1.2, this.2⟩) hD
   (fun j hj => by
    have := List.all_eq_true.1 h7 j hj
    cases hoj : l.toArray[j]? with
    | none => rw [hoj] at this; cases this
    | some oj =>
     rw [hoj] at this
     obtain ⟨q, hq, h7⟩ := Array.any_eq_true.1 this
     simp only [Bool.and_eq_true, Bool.or_eq_true, beq_iff_eq, List.contains_iff_mem] at h7
     exact ⟨oj, rfl, _, Array.getElem_mem hq, h7⟩)
   (c1.length + c2.length) c1 (Array.replicate l.toArray.size false) a { w with drawn := w.drawn + 1 } rfl (chP_of h3) (chP_of h3b) (by simpa using h5)
   (fun j hj oj hoj e he hb => by
    have := List.all_eq_true.1 h1z j hj
    rw [hoj] at this
    have := Array.all_eq_true'.1 this e he
    rw [hb] at this
    simpa using this)
   (fun p hp hd => by
    have := List.all_eq_true.1 hDq p hp
    simp only [Bool.or_eq_true, Bool.not_eq_true', List.contains_eq_mem, decide_eq_false_iff_not, decide_eq_true_eq] at this
    exact this.resolve_left (fun h => h hd))
   (fun j hj => by
    have := List.all_eq_true.1 h12 j hj
    simpa using this)
   (fun p hp hlt => by
    have := List.all_eq_true.1 h10 p hp
    simp only [Bool.or_eq_true, decide_eq_true_eq, List.contains_iff_mem] at this
    rcases this with (h11 | h11) | h11
    ·omega
    ·exact .inl h11
    ·cases hoj : l.toArray[p.2]? with
     | none => rw [hoj] at h11; cases h11
     | some oj =>
      rw [hoj] at h11
      simp only [Bool.and_eq_true] at h11
      exact .inr ⟨oj, rfl, h11⟩)
   (fun i hi => by
    rw [getD_replicate_false]
    have := List.all_eq_true.1 h4 i (List.mem_range.2 hi)
    simpa using this)
   ⟨by simp, fun j oj _ hl => (by rw [getD_replicate_false] at hl; cases hl), fun t _ ht => getD_in (by simpa using ht) (getD_replicate_false _ _)⟩
   (h _ (Kp.drew (Dw := Dw) _) a ha)
  rw [h2] at key
  exact key
end
end Go.Gw
