import Derived.Test.YtjdjmddclfhpeaaGreatDoorGq
namespace Go.Gw
open Go Go.RowKit Go.Pu
variable {Dw : Prop}
set_option linter.unusedSimpArgs false
set_option linter.unusedVariables false
section
variable {P : Program} {ops : Array Oper} {md : Region.Mode}
def chZ (Dw : Prop) (P : Program) (ops : Array Oper) (ro : Option Nat) (A : Nat → Prop) (T : Act → World → Prop) (z : Nat) (c2 : List (Nat × Nat)) : List (Nat × Nat) → Act → World → Prop
 | [], a, w => chOK Dw P ops ro A T ((2, z) :: c2) a w
 | (b, i) :: c, a, w => if b < 2 then qOp P ops (fun w' => cls Dw A b w w') i (fun a' => chZ Dw P ops ro A T z c2 c a' w) a
  else chOK Dw P ops ro A T ((2, z) :: (b, i) :: (c ++ c2)) a w ∧ wpOpIn (FR ro) 0 P ops QF i (fun a' w' => sw Dw A b w w' ∧ chZ Dw P ops ro A T z c2 c a' w') a w
theorem chZ_quiet {ro : Option Nat} {A : Nat → Prop} {T : Act → World → Prop} {n i bi z : Nat} (hbi : bi < 2) {post c2 : List (Nat × Nat)} {w : World} {oi : Oper} (hsel : Region.noSelect ops = true) (ho : ops[i]? = some oi) (hpi : plainQ oi = true) :
  ∀ (pre : List (Nat × Nat)) (a : Act), ChP md ops n (pre ++ (bi, i) :: (post ++ c2)) → (∀ y ∈ pre, y.1 < 2) → (∀ e ∈ oi.after, Region.binds md e = true → e.on ∉ idxs (pre ++ (bi, i) :: (post ++ c2))) → chZ Dw P ops ro A T z c2 (pre ++ (bi, i) :: post) a w →
   qOp P ops (fun w' => w' = w) i (fun a' => chZ Dw P ops ro A T z c2 (pre ++ post) a' w) a
 | [], a, _, _, _, h => by
  have h1 : qOp P ops (fun w' => cls Dw A bi w w') i (fun a' => chZ Dw P ops ro A T z c2 post a' w) a := by
   simp only [List.nil_append, chZ, if_pos hbi] at h
   exact h
  obtain ⟨v, hy, hK⟩ := yieldsIn_of_qOp ho h1
  exact (yields_up hpi (fun w' e => by subst e; exact cls_refl) hy).qOp ho hK
 | (b, x) :: pre, a, hg, hq, hno, h => by
  have hb : b < 2 := hq (b, x) (by simp)
  obtain ⟨_, _, ⟨ox, hox, _, _, h4⟩, h5⟩ := hg
  have hap' : ox.apart ops oi = true := (ch_apart (n := n) (b := bi) (c := pre ++ (bi, i) :: (post ++ c2)) hox ho (by simp) (fun e he hb hm => hno e he hb (by simpa [idxs] using hm)) (h4 hb).2).1
  have h6 : qOp P ops (fun w' => cls Dw A b w w') x (fun a' => chZ Dw P ops ro A T z c2 (pre ++ (bi, i) :: post) a' w) a := by
   simp only [List.cons_append, chZ, if_pos hb] at h
   exact h
  obtain ⟨v, hy, hK⟩ := yieldsIn_of_qOp hox h6
  have ih := chZ_quiet hbi hsel ho hpi pre _ h5 (fun y hy => hq y (List.mem_cons_of_mem _ hy)) (fun e he hb hm => hno e he hb (by simp only [List.cons_append, idxs, List.map_cons, List.mem_cons]; exact .inr hm)) hK
  have hy' : YieldsIn P ops (fun w' => w' = w) ox v a := yields_up (h4 hb).1 (fun w' e => by subst e; exact cls_refl) hy
  have h7 := qOp_put ho hap' (fun cs b => Region.noSelect_spec hsel x ox cs b hox) (fun cs b => Region.noSelect_spec hsel i oi cs b ho) hy' ih
  obtain ⟨v2, hy2, hK2⟩ := yieldsIn_of_qOp ho h7
  refine hy2.qOp ho ?_
  obtain ⟨h8, h9, h10⟩ := Oper.apart_spec hap'
  show chZ Dw P ops ro A T z c2 ((b, x) :: (pre ++ post)) _ w
  simp only [chZ, if_pos hb]
  refine YieldsIn.qOp hox ?_ hK2.2
  exact hy.of_same (execOp_put ox (fun cs b => Region.noSelect_spec hsel x ox cs b hox) a oi.dst v2 h10) (wanted_put ox a oi.dst v2 h10)
theorem chZ_loud {ro : Option Nat} {A : Nat → Prop} {T : Act → World → Prop} {n i k z : Nat} (hk2 : 2 ≤ k) {post c2 : List (Nat × Nat)} {w : World} {oi : Oper} (hsel : Region.noSelect ops = true) (ho : ops[i]? = some oi) (hnd : deferO oi = false) :
  ∀ (pre : List (Nat × Nat)) (a : Act), ChP md ops n (pre ++ (k, i) :: (post ++ c2)) → (∀ y ∈ pre, y.1 < 2) → (∀ e ∈ oi.after, Region.binds md e = true → e.on ∉ idxs (pre ++ (k, i) :: (post ++ c2))) → chZ Dw P ops ro A T z c2 (pre ++ (k, i) :: post) a w →
   wpOpIn (FR ro) 0 P ops QF i (fun a' w' => sw Dw A k w w' ∧ chZ Dw P ops ro A T z c2 (pre ++ post) a' w') a w
 | [], _, _, _, _, h => by
  simp only [List.nil_append, chZ, if_neg (show ¬ k < 2 by omega)] at h
  exact h.2
 | (b, x) :: pre, a, hg, hq, hno, h => by
  have hb : b < 2 := hq (b, x) (by simp)
  obtain ⟨_, _, ⟨ox, hox, _, _, h4⟩, h5⟩ := hg
  obtain ⟨hap', hwild⟩ := ch_apart (n := n) (b := k) (c := pre ++ (k, i) :: (post ++ c2)) hox ho (by simp) (fun e he hb hm => hno e he hb (by simpa [idxs] using hm)) (h4 hb).2
  have h6 : qOp P ops (fun w' => cls Dw A b w w') x (fun a' => chZ Dw P ops ro A T z c2 (pre ++ (k, i) :: post) a' w) a := by
   simp only [List.cons_append, chZ, if_pos hb] at h
   exact h
  obtain ⟨v, hy, hK⟩ := yieldsIn_of_qOp hox h6
  have ih := chZ_loud hk2 hsel ho hnd pre _ h5 (fun y hy => hq y (List.mem_cons_of_mem _ hy)) (fun e he hb hm => hno e he hb (by simp only [List.cons_append, idxs, List.map_cons, List.mem_cons]; exact .inr hm)) hK
  have h7 := wpOp_putF ho hnd hap' (fun cs b => Region.noSelect_spec hsel x ox cs b hox) (fun cs b => Region.noSelect_spec hsel i oi cs b ho) hy ih
  refine wpOpIn_mono (fun a' w' ⟨q1, q2, q3⟩ => ⟨q2, ?_⟩) h7
  show chZ Dw P ops ro A T z c2 ((b, x) :: (pre ++ post)) a' w'
  simp only [chZ, if_pos hb]
  refine YieldsIn.qOp hox ?_ q3
  rcases hwild with hc | hf
  ·exact yields_up (h4 hb).1 (fun w2 h2 => cls_up hb hk2 hc q2 h2) q1
  ·exact yields_free (h4 hb).1 hf cls_refl q1
theorem chZ_free {ro : Option Nat} {A : Nat → Prop} {T : Act → World → Prop} {z : Nat} {c2 : List (Nat × Nat)} {w : World} {oz : Oper} (hsel : Region.noSelect ops = true) (hz : ops[z]? = some oz) (hnd : deferO oz = false) :
  ∀ (c1 : List (Nat × Nat)) (a : Act), (∀ p ∈ c1, p.1 < 2 → ∃ o, ops[p.2]? = some o ∧ o.apart ops oz = true ∧ plainQ o = true) → chZ Dw P ops ro A T z c2 c1 a w →
   wpOpIn (FR ro) 0 P ops QF z (fun a' w' => sw Dw A 2 w w' ∧ chOK Dw P ops ro A T (c1 ++ c2) a' w') a w
 | [], a, _, h => by
  simp only [chZ, chOK, if_neg (show ¬ 2 < 2 by omega)] at h
  exact h
 | (b, x) :: c1, a, hq, h => by
  rcases Nat.lt_or_ge b 2 with hb | hb
  ·obtain ⟨ox, hox, hap, hpx⟩ := hq (b, x) (by simp) hb
   have h6 : qOp P ops (fun w' => cls Dw A b w w') x (fun a' => chZ Dw P ops ro A T z c2 c1 a' w) a := by
    simp only [chZ, if_pos hb] at h
    exact h
   obtain ⟨v, hy, hK⟩ := yieldsIn_of_qOp hox h6
   have ih := chZ_free hsel hz hnd c1 _ (fun p hp => hq p (List.mem_cons_of_mem _ hp)) hK
   have h7 := wpOp_putF hz hnd hap (fun cs b => Region.noSelect_spec hsel x ox cs b hox) (fun cs b => Region.noSelect_spec hsel z oz cs b hz) hy ih
   refine wpOpIn_mono (fun a' w' ⟨q1, q2, q3⟩ => ⟨q2, ?_⟩) h7
   show chOK Dw P ops ro A T ((b, x) :: (c1 ++ c2)) a' w'
   simp only [chOK, if_pos hb]
   refine YieldsIn.qOp hox ?_ q3
   exact yields_up hpx (fun w2 h2 => cls_up hb (by decide) (by simp [compat]) q2 h2) q1
  ·simp only [chZ, if_neg (show ¬ b < 2 by omega)] at h
   have h1 := h.1
   simp only [chOK, if_neg (show ¬ 2 < 2 by omega)] at h1
   exact h1
theorem chz_split {n i : Nat} {c2 : List (Nat × Nat)} : ∀ (c : List (Nat × Nat)), ChP md ops n (c ++ c2) → i ∈ idxs c → (∃ o, ops[i]? = some o ∧ ∀ e ∈ o.after, Region.binds md e = true → e.on ∉ idxs (c ++ c2)) →
  ∃ pre b post, c = pre ++ (b, i) :: post ∧ ∀ y ∈ pre, y.1 < 2
 | [], _, hi, _ => by simp [idxs] at hi
 | (b, x) :: c, hg, hi, ⟨o, ho, hdep⟩ => by
  by_cases hx : x = i
  ·subst hx
   exact ⟨[], b, c, rfl, by simp⟩
  ·have hi' : i ∈ idxs c := by
    simp only [idxs, List.map_cons, List.mem_cons] at hi
    exact hi.resolve_left fun e => hx e.symm
   obtain ⟨_, _, ⟨ox, hox, _, h3, _⟩, h5⟩ := hg
   have hb : b < 2 := by
    rcases Nat.lt_or_ge b 2 with h | h
    ·exact h
    ·obtain ⟨oj, hoj, e, he, hbd, hon⟩ := (h3 h).2 i (by show i ∈ idxs (c ++ c2); rw [idxs_app]; exact List.mem_append_left _ hi')
     have := Option.some.inj (ho.symm.trans hoj)
     subst this
     exact absurd (by simp only [List.cons_append, idxs, List.map_cons, List.mem_cons]; exact hon) (hdep e he hbd)
   obtain ⟨pre, b', post, rfl, hq⟩ := chz_split c h5 hi' ⟨o, ho, fun e he hbd hm => hdep e he hbd (by simp only [List.cons_append, idxs, List.map_cons, List.mem_cons]; exact .inr hm)⟩
   exact ⟨(b, x) :: pre, b', post, rfl, fun y hy => by
    rcases List.mem_cons.1 hy with rfl | hy
    ·exact hb
    ·exact hq y hy⟩
theorem ready_none {listed : Array Bool} (q1 : ∀ i, i < ops.size → listed.getD i false = true) : Region.ready md ops listed = [] := by
 refine List.eq_nil_iff_forall_not_mem.2 fun i hi => ?_
 obtain ⟨hui, o, ho, _⟩ := mem_ready.1 hi
 have h1 := q1 i (Array.getElem?_eq_some_iff.1 ho).1
 rw [getD_both hui] at h1
 cases h1
theorem wpAnyIn_chZ {ro : Option Nat} {A : Nat → Prop} {Q : Exit → Act → World → Prop} {T : Act → World → Prop} {z : Nat} {oz : Oper} {c2 : List (Nat × Nat)} (hsel : Region.noSelect ops = true)
  (hT : ∀ a w, T a w → wpListIn (FR ro) 0 P ops Q (ops.toList.drop ops.size) a w)
  (hz : ops[z]? = some oz) (hnd : deferO oz = false) (hzf : ∀ e ∈ oz.after, Region.binds md e = false)
  (hc2 : ∀ j ∈ idxs c2, ∃ oj, ops[j]? = some oj ∧ ∃ e ∈ oj.after, Region.binds md e = true ∧ (e.on = z ∨ e.on ∈ idxs c2)) :
  ∀ (m : Nat) (c1 : List (Nat × Nat)) (listed : Array Bool) (a : Act) (w : World), c1.length + c2.length = m → ChP md ops ops.size (c1 ++ c2) → z ∉ idxs (c1 ++ c2) →
   (∀ p ∈ c1, p.1 < 2 → ∃ o, ops[p.2]? = some o ∧ o.apart ops oz = true ∧ plainQ o = true) →
   (∀ i, i < ops.size → (listed.getD i false = false ↔ i = z ∨ i ∈ idxs (c1 ++ c2))) → HeadInv md ops ops.size listed →
   chZ Dw P ops ro A T z c2 c1 a w → wpAnyIn (FR ro) 0 P md ops Q (m + 1) listed a w := by
 have hzl : z < ops.size := (Array.getElem?_eq_some_iff.1 hz).1
 intro m
 induction m with
 | zero =>
  intro c1 listed a w hl hg hzc hap hin hinv h
  have e1 : c1 = [] := List.eq_nil_of_length_eq_zero (by omega)
  have e2 : c2 = [] := List.eq_nil_of_length_eq_zero (by omega)
  subst e1
  subst e2
  have hze : listed.getD z true = false := getD_in (by rw [hinv.size]; exact hzl) ((hin z hzl).2 (.inl rfl))
  refine ⟨(by
   intro h
   have : z ∈ Region.ready md ops listed := mem_ready.2 ⟨hze, oz, hz, fun e he hb => by rw [hzf e he] at hb; cases hb⟩
   rw [h] at this
   exact absurd this (by simp)), fun i hi => ?_⟩
  obtain ⟨hui, o, ho, hdep⟩ := mem_ready.1 hi
  have hlt : i < ops.size := (Array.getElem?_eq_some_iff.1 ho).1
  obtain rfl : i = z := by
   rcases (hin i hlt).1 (getD_both hui) with h | h
   ·exact h
   ·simp [idxs] at h
  obtain rfl : oz = o := Option.some.inj (hz.symm.trans ho)
  have hf := chZ_free hsel hz hnd [] a (fun p hp => by simp at hp) h
  refine wpOpIn_mono (fun a' w' ⟨_, h'⟩ => ?_) (wpOpF hf)
  have h2 := wpAnyIn_ch (ro := ro) (A := A) (md := md) (P := P) (ops := ops) (Q := Q) (n := ops.size) (T := T) hsel (Nat.le_refl _) (fun h => absurd h (Nat.lt_irrefl _)) (fun listed hsz q1 q2 => by
   rw [Nat.sub_self]
   simp [Region.seqB, ready_none q1]) hT 0 [] (listed.setIfInBounds i true) a' w' rfl trivial (fun j hj => by
    by_cases hji : j = i
    ·subst hji
     have hlt2 : j < listed.size := by rw [hinv.size]; exact hj
     simp [hlt2, idxs]
    ·rw [getD_set_ne false (Ne.symm hji), hin j hj]
     simp [idxs, hji]) (hinv.set hi hlt) h'
  simpa using h2
 | succ m ih =>
  intro c1 listed a w hl hg hzc hap hin hinv h
  have hze : listed.getD z true = false := getD_in (by rw [hinv.size]; exact hzl) ((hin z hzl).2 (.inl rfl))
  refine ⟨(by
   intro h
   have : z ∈ Region.ready md ops listed := mem_ready.2 ⟨hze, oz, hz, fun e he hb => by rw [hzf e he] at hb; cases hb⟩
   rw [h] at this
   exact absurd this (by simp)), fun i hi => ?_⟩
  obtain ⟨hui, o, ho, hdep⟩ := mem_ready.1 hi
  have hlt : i < ops.size := (Array.getElem?_eq_some_iff.1 ho).1
  have hno : ∀ e ∈ o.after, Region.binds md e = true → e.on ≠ z ∧ e.on ∉ idxs (c1 ++ c2) := fun e he hb => by
   have h1 := hdep e he hb
   have hl2 : e.on < ops.size := by
    rcases Nat.lt_or_ge e.on ops.size with h2 | h2
    ·exact h2
    ·simp [Array.getElem?_eq_none (show listed.size ≤ e.on by rw [hinv.size]; exact h2)] at h1
   refine ⟨fun hm => ?_, fun hm => ?_⟩
   ·rw [(hin _ hl2).2 (.inl hm)] at h1
    cases h1
   ·rw [(hin _ hl2).2 (.inr hm)] at h1
    cases h1
  by_cases hiz : i = z
  ·subst hiz
   obtain rfl : oz = o := Option.some.inj (hz.symm.trans ho)
   have hf := chZ_free hsel hz hnd c1 a hap h
   refine wpOpIn_mono (fun a' w' ⟨_, h'⟩ => ?_) (wpOpF hf)
   have h2 := wpAnyIn_ch (ro := ro) (A := A) (md := md) (P := P) (ops := ops) (Q := Q) (n := ops.size) (T := T) hsel (Nat.le_refl _) (fun h => absurd h (Nat.lt_irrefl _)) (fun listed hsz q1 q2 => by
    rw [Nat.sub_self]
    simp [Region.seqB, ready_none q1]) hT (m + 1) (c1 ++ c2) (listed.setIfInBounds i true) a' w' (by simp; omega) hg (fun j hj => by
     by_cases hji : j = i
     ·subst hji
      have hlt2 : j < listed.size := by rw [hinv.size]; exact hj
      simp only [hzc, iff_false]
      simp [hlt2]
     ·rw [getD_set_ne false (Ne.symm hji), hin j hj]
      simp [hji]) (hinv.set hi hlt) h'
   simpa using h2
  ·have hic : i ∈ idxs (c1 ++ c2) := ((hin i hlt).1 (getD_both hui)).resolve_left hiz
   have hic1 : i ∈ idxs c1 := by
    rw [idxs_app, List.mem_append] at hic
    rcases hic with h1 | h1
    ·exact h1
    ·obtain ⟨oj, hoj, e, he, hb, hon⟩ := hc2 i h1
     obtain rfl : o = oj := Option.some.inj (ho.symm.trans hoj)
     obtain ⟨q1, q2⟩ := hno e he hb
     rcases hon with h2 | h2
     ·exact absurd h2 q1
     ·exact absurd (by rw [idxs_app]; exact List.mem_append_right _ h2) q2
   obtain ⟨pre, b, post, rfl, hq⟩ := chz_split c1 hg hic1 ⟨o, ho, fun e he hb => (hno e he hb).2⟩
   have e0 : pre ++ (b, i) :: post ++ c2 = pre ++ (b, i) :: (post ++ c2) := by simp
   have hg0 := hg
   rw [e0] at hg0
   have hno' : ∀ e ∈ o.after, Region.binds md e = true → e.on ∉ idxs (pre ++ (b, i) :: (post ++ c2)) := fun e he hb => by rw [← e0]; exact (hno e he hb).2
   have hg' := chP_rem (x := (b, i)) ho hq hno' hg0
   rw [← List.append_assoc] at hg'
   have hnd2 : i ∉ idxs (pre ++ post ++ c2) := by
    rw [List.append_assoc]
    have key : ∀ (pre : List (Nat × Nat)), ChP md ops ops.size (pre ++ (b, i) :: (post ++ c2)) → i ∉ idxs (pre ++ (post ++ c2)) := by
     intro pre
     induction pre with
     | nil => exact fun h => h.2.1
     | cons p pre ihp =>
      obtain ⟨b', x⟩ := p
      intro h
      have h1 := ihp h.2.2.2
      have h2 := h.2.1
      simp only [List.cons_append, idxs, List.map_cons, List.mem_cons, not_or]
      refine ⟨fun e => h2 (by subst e; simp [idxs]), h1⟩
    exact key pre hg0
   have hsub : ∀ j, j ∈ idxs (pre ++ post ++ c2) → j ∈ idxs (pre ++ (b, i) :: post ++ c2) := fun j hj => by
    simp only [idxs, List.map_append, List.mem_append, List.map_cons, List.mem_cons] at hj ⊢
    rcases hj with (h1 | h1) | h1
    ·exact .inl (.inl h1)
    ·exact .inl (.inr (.inr h1))
    ·exact .inr h1
   have next : ∀ a' w', chZ Dw P ops ro A T z c2 (pre ++ post) a' w' → wpAnyIn (FR ro) 0 P md ops Q (m + 1) (listed.setIfInBounds i true) a' w' := fun a' w' h' =>
    ih (pre ++ post) _ a' w' (by simp at hl ⊢; omega) hg' (fun h => hzc (hsub _ h)) (fun p hp => hap p (by
     rcases List.mem_append.1 hp with h1 | h1
     ·exact List.mem_append_left _ h1
     ·exact List.mem_append_right _ (List.mem_cons_of_mem _ h1))) (fun j hj => by
     by_cases hji : j = i
     ·subst hji
      have hlt2 : j < listed.size := by rw [hinv.size]; exact hj
      simp only [hnd2, hiz, or_self, iff_false]
      simp [hlt2]
     ·rw [getD_set_ne false (Ne.symm hji), hin j hj]
      simp only [idxs_app, List.mem_append]
      simp [idxs, hji]) (hinv.set hi hlt) h'
   have hgi : ∀ (pre : List (Nat × Nat)), ChP md ops ops.size (pre ++ (b, i) :: (post ++ c2)) → (2 ≤ b → deferO o = false) ∧ (b < 2 → plainQ o = true) := by
    intro pre
    induction pre with
    | nil =>
     rintro ⟨_, _, ⟨o', ho', _, q1, q2⟩, _⟩
     have := Option.some.inj (ho.symm.trans ho')
     subst this
     exact ⟨fun h => (q1 h).1, fun h => (q2 h).1⟩
    | cons p pre ihp => exact fun h => ihp h.2.2.2
   rcases Nat.lt_or_ge b 2 with hb | hb
   ·exact wpOp_q ho ((hgi pre hg0).2 hb) (chZ_quiet hb hsel ho ((hgi pre hg0).2 hb) pre a hg0 hq hno' h) fun a' h' => next a' w h'
   ·exact wpOpIn_mono (fun a' w' ⟨_, h'⟩ => next a' w' h') (wpOpF (chZ_loud hb hsel ho ((hgi pre hg0).1 hb) pre a hg0 hq hno' h))
def chzB (md : Region.Mode) (ops : Array Oper) (z : Nat) (c1 c2 : List (Nat × Nat)) : Bool :=
 Region.noSelect ops && decide (c1.length + c2.length + 1 = ops.size) && chG md ops ops.size (c1 ++ c2) && ((List.range ops.size).all fun i => (i == z) || (idxs (c1 ++ c2)).contains i) && !(idxs (c1 ++ c2)).contains z &&
  (match ops[z]? with
  | none => false
  | some oz => !deferO oz && (oz.after.all fun e => !Region.binds md e) && c1.all fun p => decide (2 ≤ p.1) || match ops[p.2]? with
   | none => false
   | some o => o.apart ops oz && plainQ o) &&
  (idxs c2).all fun j => match ops[j]? with
   | none => false
   | some oj => oj.after.any fun e => Region.binds md e && (e.on == z || (idxs c2).contains e.on)
def CHZ (Dw : Prop) (P : Program) (nn : Fr) (ops : Array Oper) (A : Nat → Prop) (T : Act → World → Prop) (z : Nat) (c2 c : List (Nat × Nat)) (E : Env) (w : World) : Prop := ∀ a, Has nn a E → chZ Dw P ops nn.ro A T z c2 c a w
end
section
variable {P : Program} {nn : Fr} {Q : Exit → Act → World → Prop} {A : Nat → Prop} {T : Act → World → Prop} {E : Env} {w w0 : World} {l tl r : List Oper} {o : Oper} {c c2 : List (Nat × Nat)} {i n id z : Nat}
theorem C_region_chz (A : Nat → Prop) (z : Nat) (c1 c2 : List (Nat × Nat)) (hm : P.follows .mixedOrders = true) (hB : chzB .any l.toArray z c1 c2 = true)
  (h : ∀ w1, Kp Dw w w1 → CHZ Dw P nn l.toArray A (fun a' w' => wpListIn (FR nn.ro) 0 P l.toArray Q [] a' w') z c2 c1 E w1) : C P nn (.region id l.toArray true) Q E w := by
 intro a ha
 refine wpIn_region_any hm ?_
 simp only [chzB, Bool.and_eq_true, decide_eq_true_eq] at hB
 obtain ⟨⟨⟨⟨⟨⟨h1, h2⟩, h3⟩, h4⟩, h5⟩, h6⟩, h7⟩ := hB
 obtain ⟨oz, hoz, h8⟩ : ∃ oz, l.toArray[z]? = some oz ∧ (!deferO oz && (oz.after.all fun e => !Region.binds .any e) && c1.all fun p => decide (2 ≤ p.1) || match l.toArray[p.2]? with
   | none => false
   | some o => o.apart l.toArray oz && plainQ o) = true := by
  cases ho : l.toArray[z]? with
  | none => rw [ho] at h6; cases h6
  | some oz => rw [ho] at h6; exact ⟨oz, rfl, h6⟩
 simp only [Bool.and_eq_true] at h8
 obtain ⟨⟨h8, h9⟩, h10⟩ := h8
 have key := wpAnyIn_chZ (ro := nn.ro) (A := A) (md := .any) (P := P) (ops := l.toArray) (Q := Q) (c2 := c2) (T := fun a' w' => wpListIn (FR nn.ro) 0 P l.toArray Q [] a' w') h1 (fun a w h => by simpa using h) hoz (by simpa using h8)
  (fun e he => by
   have := Array.all_eq_true'.1 h9 e he
   simpa using this)
  (fun j hj => by
   have := List.all_eq_true.1 h7 j hj
   cases hoj : l.toArray[j]? with
   | none => rw [hoj] at this; cases this
   | some oj =>
    rw [hoj] at this
    obtain ⟨q, hq, h7⟩ := Array.any_eq_true.1 this
    simp only [Bool.and_eq_true, Bool.or_eq_true, beq_iff_eq, List.contains_iff_mem] at h7
    exact ⟨oj, rfl, _, Array.getElem_mem hq, h7⟩)
  (c1.length + c2.length) c1 (Array.replicate l.toArray.size false) a { w with drawn := w.drawn + 1 } rfl (chP_of h3) (by simpa using h5)
  (fun p hp hlt => by
   have := List.all_eq_true.1 h10 p hp
   simp only [Bool.or_eq_true, decide_eq_true_eq] at this
   have h11 := this.resolve_left (by omega)
   cases hoj : l.toArray[p.2]? with
   | none => rw [hoj] at h11; cases h11
   | some oj =>
    rw [hoj] at h11
    simp only [Bool.and_eq_true] at h11
    exact ⟨oj, rfl, h11⟩)
  (fun i hi => by
   rw [getD_replicate_false]
   have := List.all_eq_true.1 h4 i (List.mem_range.2 hi)
   simpa using this)
  ⟨by simp, fun j oj _ hl => (by rw [getD_replicate_false] at hl; cases hl), fun t _ ht => getD_in (by simpa using ht) (getD_replicate_false _ _)⟩
  (h _ (Kp.drew (Dw := Dw) _) a ha)
 rw [h2] at key
 exact key
theorem CHZ_nil (h : CH Dw P nn l.toArray A T ((2, z) :: c2) E w) : CHZ Dw P nn l.toArray A T z c2 [] E w := h
theorem CHZ_q1 (hd : l.drop i = o :: r) (h : VQ P nn l.toArray (fun w' => Kp Dw w w') (fun a' => chZ Dw P l.toArray nn.ro A T z c2 c a' w) [o] E) : CHZ Dw P nn l.toArray A T z c2 ((0, i) :: c) E w := by
 intro a ha
 simp only [chZ, if_pos (show 0 < 2 by decide)]
 show qOp P l.toArray (fun w' => Kp Dw w w') i _ a
 unfold qOp
 simp only [drop_get hd]
 exact h a ha
theorem CHZ_q2 (hd : l.drop i = o :: r) (h : VQ P nn l.toArray (fun w' => XA A w w') (fun a' => chZ Dw P l.toArray nn.ro A T z c2 c a' w) [o] E) : CHZ Dw P nn l.toArray A T z c2 ((1, i) :: c) E w := by
 intro a ha
 simp only [chZ, if_pos (show 1 < 2 by decide)]
 show qOp P l.toArray (fun w' => XA A w w') i _ a
 unfold qOp
 simp only [drop_get hd]
 exact h a ha
theorem VQ_CHZ {W : World → Prop} (h : CHZ Dw P nn l.toArray A T z c2 c E w) : VQ P nn l.toArray W (fun a' => chZ Dw P l.toArray nn.ro A T z c2 c a' w) [] E := fun a ha => wpQuiet_nil (h a ha)
theorem CHZ_l1 (cc : List (Nat × Nat)) {k : Nat} (hcc : cc = (2, z) :: (k + 2, i) :: (c ++ c2)) (h0 : CH Dw P nn l.toArray A T cc E w) (hd : l.drop i = o :: r) (h : V P nn l.toArray (Exit.then (fun a' w' => sw Dw A (k + 2) w w' ∧ chZ Dw P l.toArray nn.ro A T z c2 c a' w') QF) [o] E w) : CHZ Dw P nn l.toArray A T z c2 ((k + 2, i) :: c) E w := by
 subst hcc
 intro a ha
 simp only [chZ, if_neg (show ¬ k + 2 < 2 by omega)]
 refine ⟨h0 a ha, ?_⟩
 show wpOpIn _ 0 P l.toArray QF i _ a w
 have h1 := h a ha
 unfold wpListIn at h1
 unfold wpOpIn
 simp only [drop_get hd]
 split
 ·rename_i hw
  rw [if_pos hw] at h1
  refine ⟨h1.1, ?_⟩
  have h1 := h1.2
  generalize (o.semAt (FR nn.ro).round a.eval).run P w = r at *
  cases r with
  | ok x w' =>
   cases x <;> simp only [Oper.uponIn] at h1 ⊢ <;>
    first
     | exact h1
     | exact ⟨h1.1, CallsIn.mono h1.2 (fun e w'' he => by
       cases e with
       | returned u => exact he
       | panicked c => exact False.elim he
       | outgrown => exact False.elim (by obtain ⟨_, _, h⟩ := he; exact h))⟩
     | exact ⟨h1.1, RoundIn.mono h1.2 (fun e w'' he => by
       cases e with
       | returned u => exact he
       | panicked c => exact False.elim he
       | outgrown => exact False.elim (by obtain ⟨_, _, h⟩ := he; exact h))⟩
  | halt x w' => cases x <;> simp only [Oper.uponIn] at h1 ⊢ <;> exact False.elim h1
 ·rename_i hw
  rw [if_neg hw] at h1
  exact h1
theorem V_CHZ (hk : Kp Dw w0 w) (h : CHZ Dw P nn l.toArray A T z c2 c E w) : V P nn l.toArray (Exit.then (fun a' w' => sw Dw A (0 + 2) w0 w' ∧ chZ Dw P l.toArray nn.ro A T z c2 c a' w') QF) [] E w := fun a ha => wpListIn_nil ⟨⟨fun _ => hk, fun h => absurd h (by decide)⟩, h a ha⟩
end
section
variable {P : Program} {n : Fr} {ops : Array Oper} {Q : Exit → Act → World → Prop} {rest : List Oper} {E : Env} {w : World} {B : Nat} {A : Nat → Prop} {L : List Ob} {d ty t : Nat} {pos : String} {af : Array Edge}
theorem V_allocHk {zv : Value} (hH : Hp B A w L) (hz : ∀ w, (zeroValue t).run P w = .ok zv w) (hB : B ≤ w.heap.size) (hA : ∀ b, w.heap.size ≤ b → A b) (hn : Nat.blt d n.sz = true)
  (h : ∀ b w1 A1, Kp Dw w w1 → Hp B A1 w1 (obC b zv.cells.toList t :: L) → Tr Dw B A w A1 w1 → V P n ops Q rest ((d, .pointer (some ⟨b, 0, none⟩)) :: E) w1) :
  V P n ops Q (⟨some d, .alloc t, ty, pos, af, none⟩ :: rest) E w :=
 V_y (w' := w.alloc (.cells zv.cells t)) (v := .pointer (some ⟨w.heap.size, 0, none⟩)) (fun a hA => by simp only [execOp, Instr.alloc]; simp [hz, newVar, newRow]) rfl rfl hn (h _ _ _ (Kp.alloc _ _) (by simpa using hH.alloc (.cells zv.cells t) hB hA) ((mv_alloc (Dw := Dw) B _ hA).tr hB))
end
end Go.Gw
