import Derived.Test.YtldkdabcdbgpbaaGreatDoorGu
namespace Go.Gw
open Go Go.RowKit Go.Pu
variable {Dw : Prop}
set_option linter.unusedSimpArgs false
set_option linter.unusedVariables false
section
variable {P : Program} {ops : Array Oper} {md : Region.Mode}
def PoP (md : Region.Mode) (ops : Array Oper) (n : Nat) : List (Nat × Nat) → Prop
 | [] => True
 | (k, i) :: r => 2 ≤ k ∧ i < n ∧ i ∉ idxs r ∧ (∃ o, ops[i]? = some o ∧ deferO o = false ∧ ∀ e ∈ o.after, Region.binds md e = true → e.on < n ∧ e.on ≠ i ∧ e.on ∉ idxs r) ∧ PoP md ops n r
def poG (md : Region.Mode) (ops : Array Oper) (n : Nat) : List (Nat × Nat) → Bool
 | [] => true
 | (k, i) :: r => decide (2 ≤ k) && decide (i < n) && !(idxs r).contains i && (match ops[i]? with
   | none => false
   | some o => !deferO o && o.after.all fun e => !Region.binds md e || (decide (e.on < n) && !(e.on == i) && !(idxs r).contains e.on)) && poG md ops n r
theorem poP_of {n : Nat} : ∀ {c : List (Nat × Nat)}, poG md ops n c = true → PoP md ops n c
 | [], _ => trivial
 | (k, i) :: c, h => by
  unfold poG at h
  simp only [Bool.and_eq_true, decide_eq_true_eq] at h
  obtain ⟨⟨⟨⟨h0, h1⟩, h2⟩, h3⟩, h4⟩ := h
  refine ⟨h0, h1, by simpa using h2, ?_, poP_of h4⟩
  cases ho : ops[i]? with
  | none => rw [ho] at h3; cases h3
  | some o =>
   rw [ho] at h3
   simp only [Bool.and_eq_true] at h3
   refine ⟨o, rfl, by simpa using h3.1, fun e he hb => ?_⟩
   have := Array.all_eq_true'.1 h3.2 e he
   simp [hb] at this
   exact ⟨this.1.1, this.1.2, this.2⟩
theorem poP_rem {n : Nat} {x : Nat × Nat} {post : List (Nat × Nat)} : ∀ {pre : List (Nat × Nat)}, PoP md ops n (pre ++ x :: post) → PoP md ops n (pre ++ post) ∧ x.2 ∉ idxs (pre ++ post) ∧ 2 ≤ x.1 ∧ ∃ o, ops[x.2]? = some o ∧ deferO o = false
 | [], h => ⟨h.2.2.2.2, h.2.2.1, h.1, let ⟨o, h1, h2, _⟩ := h.2.2.2.1; ⟨o, h1, h2⟩⟩
 | (k, i) :: pre, h => by
  obtain ⟨h0, h1, h2, ⟨o, h3, h4, h5⟩, h6⟩ := h
  obtain ⟨g1, g2, g3, g4⟩ := poP_rem h6
  have hsub : ∀ j, j ∈ idxs (pre ++ post) → j ∈ idxs (pre ++ x :: post) := fun j hj => by
   simp only [idxs_app, List.mem_append] at hj ⊢
   exact hj.imp id fun h => by simp [idxs] at h ⊢; exact .inr h
  refine ⟨⟨h0, h1, fun h => h2 (hsub _ h), ⟨o, h3, h4, fun e he hb => ⟨(h5 e he hb).1, (h5 e he hb).2.1, fun h => (h5 e he hb).2.2 (hsub _ h)⟩⟩, g1⟩, ?_, g3, g4⟩
  simp only [List.cons_append, idxs, List.map_cons, List.mem_cons, not_or]
  refine ⟨fun e => h2 ?_, g2⟩
  rw [← e]
  show x.2 ∈ idxs (pre ++ x :: post)
  rw [idxs_app]
  exact List.mem_append_right _ (by simp [idxs])
theorem po_loud {ro : Option Nat} {A : Nat → Prop} {T T' : Act → World → Prop} {z k : Nat} (hk : 2 ≤ k) {w : World} {oz : Oper} (hsel : Region.noSelect ops = true) (hz : ops[z]? = some oz) (hnd : deferO oz = false)
  (hT : ∀ a, T a w → wpOpIn (FR ro) 0 P ops QF z (fun a' w' => sw Dw A k w w' ∧ T' a' w') a w) :
  ∀ (c : List (Nat × Nat)) (a : Act), (∀ p ∈ c, p.1 < 2 ∧ ∃ o, ops[p.2]? = some o ∧ o.apart ops oz = true ∧ plainQ o = true ∧ (compat p.1 k = true ∨ freeQ o = true)) → chOK Dw P ops ro A T c a w →
   wpOpIn (FR ro) 0 P ops QF z (fun a' w' => sw Dw A k w w' ∧ chOK Dw P ops ro A T' c a' w') a w
 | [], a, _, h => hT a h
 | (b, x) :: c, a, hq, h => by
  obtain ⟨hb, ox, hox, hap, hpx, hcm⟩ := hq (b, x) (by simp)
  have h6 : qOp P ops (fun w' => cls Dw A b w w') x (fun a' => chOK Dw P ops ro A T c a' w) a := by
   have hb : b < 2 := hb
   simp only [chOK, if_pos hb] at h
   exact h
  obtain ⟨v, hy, hK⟩ := yieldsIn_of_qOp hox h6
  have ih := po_loud hk hsel hz hnd hT c _ (fun p hp => hq p (List.mem_cons_of_mem _ hp)) hK
  have h7 := wpOp_putF hz hnd hap (fun cs b => Region.noSelect_spec hsel x ox cs b hox) (fun cs b => Region.noSelect_spec hsel z oz cs b hz) hy ih
  refine wpOpIn_mono (fun a' w' ⟨q1, q2, q3⟩ => ⟨q2, ?_⟩) h7
  show chOK Dw P ops ro A T' ((b, x) :: c) a' w'
  have hb : b < 2 := hb
  simp only [chOK, if_pos hb]
  refine YieldsIn.qOp hox ?_ q3
  rcases hcm with hc | hf
  ·exact yields_up hpx (fun w2 h2 => cls_up hb hk hc q2 h2) q1
  ·exact yields_free hpx hf cls_refl q1
def pend (c : List (Nat × Nat)) (j : Nat) : Bool := (idxs c).contains j
theorem pend_rem {x : Nat × Nat} {pre post : List (Nat × Nat)} (h : x.2 ∉ idxs (pre ++ post)) : pend (pre ++ post) = fun j => j != x.2 && pend (pre ++ x :: post) j := by
 funext j
 simp only [pend]
 by_cases hj : j = x.2
 ·subst hj
  simp only [bne_self_eq_false, Bool.false_and]
  simpa using h
 ·have : (j != x.2) = true := by simpa using hj
  rw [this, Bool.true_and]
  simp only [idxs, List.map_append, List.map_cons]
  rw [Bool.eq_iff_iff]
  simp [hj]
theorem wpAnyIn_po {ro : Option Nat} {A : Nat → Prop} {Q : Exit → Act → World → Prop} {I : (Nat → Bool) → Act → World → Prop} {ls qs : List (Nat × Nat)} {n : Nat} (hsel : Region.noSelect ops = true) (hnl : n ≤ ops.size) (hs : n < ops.size → Region.sinkB md ops n = true ∧ Region.chainB md ops n = true)
  (hseqN : ∀ listed : Array Bool, listed.size = ops.size → (∀ i, i < n → listed.getD i false = true) → (∀ i, n ≤ i → listed.getD i false = false) → Region.seqB md ops (ops.size - n) n listed = true)
  (hT : ∀ a w, I (pend []) a w → wpListIn (FR ro) 0 P ops Q (ops.toList.drop n) a w)
  (hI : ∀ (p : Nat → Bool) k i, (k, i) ∈ ls → p i = true → (∀ o, ops[i]? = some o → ∀ e ∈ o.after, Region.binds md e = true → p e.on = false) → ∀ a w, I p a w → wpOpIn (FR ro) 0 P ops QF i (fun a' w' => sw Dw A k w w' ∧ I (fun j => j != i && p j) a' w') a w)
  (hqz : ∀ p ∈ qs, p.1 < 2 ∧ ∃ o, ops[p.2]? = some o ∧ plainQ o = true ∧ (∀ e ∈ o.after, Region.binds md e = true → e.on ∉ idxs ls) ∧ ∀ z ∈ ls, ∃ oz, ops[z.2]? = some oz ∧ ((∃ e ∈ oz.after, Region.binds md e = true ∧ e.on = p.2) ∨ (o.apart ops oz = true ∧ (compat p.1 z.1 = true ∨ freeQ o = true)))) :
  ∀ (m : Nat) (c r : List (Nat × Nat)) (listed : Array Bool) (a : Act) (w : World), c.length + r.length = m → ChP md ops n c → (∀ p ∈ c, p ∈ qs) → PoP md ops n r → (∀ p ∈ r, p ∈ ls) → (∀ i ∈ idxs c, i ∉ idxs r) →
   (∀ i, i < n → (listed.getD i false = false ↔ i ∈ idxs c ∨ i ∈ idxs r)) → HeadInv md ops n listed →
   chOK Dw P ops ro A (I (pend r)) c a w → wpAnyIn (FR ro) 0 P md ops Q (m + (ops.size - n)) listed a w := by
 intro m
 induction m with
 | zero =>
  intro c r listed a w hl hg hcq hp hrl hdis hin hinv h
  have e1 : c = [] := List.eq_nil_of_length_eq_zero (by omega)
  have e2 : r = [] := List.eq_nil_of_length_eq_zero (by omega)
  subst e1
  subst e2
  exact wpAnyIn_ch (ro := ro) (A := A) (md := md) (P := P) (ops := ops) (Q := Q) (n := n) (T := I (pend [])) hsel hnl hs hseqN hT 0 [] listed a w rfl trivial (fun j hj => by rw [hin j hj]; simp [idxs]) hinv h
 | succ m ih =>
  intro c r listed a w hl hg hcq hp hrl hdis hin hinv h
  have unl : ∀ i, i < n → (i ∈ idxs c ∨ i ∈ idxs r) → listed.getD i true = false := fun i hlt hi => getD_in (by rw [hinv.size]; omega) ((hin i hlt).2 hi)
  have hdone : ∀ i, i < n → i ∉ idxs c → i ∉ idxs r → listed.getD i false = true := fun i hi h1 h2 => by
   cases hv : listed.getD i false with
   | true => rfl
   | false => exact absurd ((hin i hi).1 hv) (by rintro (h | h); exact h1 h; exact h2 h)
  obtain ⟨i0, hi0, hu0, hr0⟩ : ∃ i0, i0 < n ∧ listed.getD i0 true = false ∧ i0 ∈ Region.ready md ops listed := by
   cases c with
   | cons p c =>
    obtain ⟨b, i⟩ := p
    obtain ⟨h1, h2, ⟨o, ho, h3, _⟩, _⟩ := hg
    refine ⟨i, h1, unl i h1 (.inl (by simp [idxs])), mem_ready.2 ⟨unl i h1 (.inl (by simp [idxs])), o, ho, fun e he hb => ?_⟩⟩
    obtain ⟨q1, q2, q3⟩ := h3 e he hb
    obtain ⟨_, o', ho', _, h6, _⟩ := hqz (b, i) (hcq _ (by simp))
    obtain rfl := Option.some.inj (ho.symm.trans ho')
    refine hdone _ q1 ?_ fun h7 => h6 e he hb ?_
    ·simp only [idxs, List.map_cons, List.mem_cons, not_or]
     exact ⟨q2, q3⟩
    ·obtain ⟨y, hy, hy2⟩ := List.mem_map.1 h7
     exact List.mem_map.2 ⟨y, hrl y hy, hy2⟩
   | nil =>
    cases r with
    | nil => simp at hl
    | cons p r =>
     obtain ⟨k, i⟩ := p
     obtain ⟨_, h1, h2, ⟨o, ho, _, h3⟩, _⟩ := hp
     refine ⟨i, h1, unl i h1 (.inr (by simp [idxs])), mem_ready.2 ⟨unl i h1 (.inr (by simp [idxs])), o, ho, fun e he hb => ?_⟩⟩
     obtain ⟨q1, q2, q3⟩ := h3 e he hb
     refine hdone _ q1 (by simp [idxs]) ?_
     simp only [idxs, List.map_cons, List.mem_cons, not_or]
     exact ⟨q2, q3⟩
  rw [show m + 1 + (ops.size - n) = (m + (ops.size - n)) + 1 by omega]
  refine ⟨(by intro h; rw [h] at hr0; exact absurd hr0 (by simp)), fun i hi => ?_⟩
  have hlt : i < n := by
   rcases Nat.lt_or_ge i n with h' | h'
   ·exact h'
   ·obtain ⟨_, o, ho, _⟩ := mem_ready.1 hi
    have hlt : i < ops.size := (Array.getElem?_eq_some_iff.1 ho).1
    obtain ⟨q1, q2⟩ := hs (by omega)
    exact absurd hi (tail_waits q1 q2 (by omega) hinv _ i0 rfl hi0 hu0 i h')
  obtain ⟨hui, o, ho, hdep⟩ := mem_ready.1 hi
  have hno : ∀ e ∈ o.after, Region.binds md e = true → e.on ∉ idxs c ∧ e.on ∉ idxs r := fun e he hb => by
   have h1 := hdep e he hb
   have hl2 : e.on < n := by
    rcases Nat.lt_or_ge e.on n with h' | h'
    ·exact h'
    ·rcases Nat.lt_or_ge e.on ops.size with h2 | h2
     ·rw [getD_both (hinv.tail _ h' h2)] at h1; cases h1
     ·simp [Array.getElem?_eq_none (show listed.size ≤ e.on by rw [hinv.size]; exact h2)] at h1
   refine ⟨fun hm => ?_, fun hm => ?_⟩
   ·rw [(hin _ hl2).2 (.inl hm)] at h1
    cases h1
   ·rw [(hin _ hl2).2 (.inr hm)] at h1
    cases h1
  rcases (hin i hlt).1 (getD_both hui) with hic | hic
  · -- a read
   obtain ⟨pre, b, post, rfl, hq⟩ := ch_split c hg hic ⟨o, ho, fun e he hb => (hno e he hb).1⟩
   have hg' := chP_rem (x := (b, i)) ho hq (fun e he hb => (hno e he hb).1) hg
   obtain ⟨hb2, o', ho', hpl, _, _⟩ := hqz (b, i) (hcq _ (by simp))
   obtain rfl := Option.some.inj (ho.symm.trans ho')
   have hb : b < 2 := hb2
   have hnd : i ∉ idxs (pre ++ post) := by
    have key : ∀ (pre : List (Nat × Nat)), ChP md ops n (pre ++ (b, i) :: post) → i ∉ idxs (pre ++ post) := by
     intro pre
     induction pre with
     | nil => exact fun h => h.2.1
     | cons p pre ihp =>
      obtain ⟨b', x⟩ := p
      intro h
      have h1 := ihp h.2.2.2
      have h2 := h.2.1
      simp only [List.cons_append, idxs, List.map_cons, List.mem_cons, not_or]
      refine ⟨fun e => h2 (by subst e; simp [idxs]), h1⟩
    exact key pre hg
   have hsub : ∀ j, j ∈ idxs (pre ++ post) → j ∈ idxs (pre ++ (b, i) :: post) := fun j hj => by
    simp only [idxs_app, List.mem_append] at hj ⊢
    exact hj.imp id fun h => by simp [idxs] at h ⊢; exact .inr h
   refine wpOp_q ho hpl (ch_quiet hb hsel ho hpl pre a hg hq (fun e he hb => (hno e he hb).1) h) fun a' h' => ?_
   refine ih (pre ++ post) r _ a' w (by simp at hl ⊢; omega) hg' (fun p hp => hcq p (by
    rcases List.mem_append.1 hp with h | h
    ·exact List.mem_append_left _ h
    ·exact List.mem_append_right _ (List.mem_cons_of_mem _ h))) hp hrl (fun j hj => hdis j (hsub j hj)) (fun j hj => ?_) (hinv.set hi hlt) h'
   by_cases hji : j = i
   ·subst hji
    have hlt2 : j < listed.size := by rw [hinv.size]; omega
    have := hdis j hic
    simp only [hnd, this, or_self, iff_false]
    simp [hlt2]
   ·rw [getD_set_ne false (Ne.symm hji), hin j hj]
    simp only [idxs_app, List.mem_append]
    simp [idxs, hji]
  · -- a loud one
   obtain ⟨x, hx, hx2⟩ := List.mem_map.1 hic
   obtain ⟨pre, post, rfl⟩ := List.append_of_mem hx
   obtain ⟨k, i'⟩ := x
   obtain rfl : i' = i := hx2
   obtain ⟨g1, g2, g3, o', ho', g4⟩ := poP_rem hp
   obtain rfl := Option.some.inj (ho.symm.trans ho')
   have hstep := hI (pend (pre ++ (k, i') :: post)) k i' (hrl _ (by simp)) (by simp [pend, idxs]) (fun o2 ho2 e he hb => by
    obtain rfl := Option.some.inj (ho.symm.trans ho2)
    have := (hno e he hb).2
    simpa [pend] using this)
   rw [← pend_rem (x := (k, i')) g2] at hstep
   have hloud := po_loud (T := I (pend (pre ++ (k, i') :: post))) (T' := I (pend (pre ++ post))) g3 hsel ho g4 (fun a ha => hstep a w ha) c a (fun p hp => by
    obtain ⟨q1, oq, q2, q3, q4, q5⟩ := hqz p (hcq p hp)
    refine ⟨q1, oq, q2, ?_⟩
    obtain ⟨oz, q6, q7⟩ := q5 (k, i') (hrl _ (by simp))
    obtain rfl := Option.some.inj (ho.symm.trans q6)
    rcases q7 with ⟨e, he, hb, hon⟩ | ⟨q8, q9⟩
    ·exact absurd (by rw [hon]; exact List.mem_map.2 ⟨p, hp, rfl⟩) (hno e he hb).1
    ·exact ⟨q8, q3, q9⟩) h
   refine wpOpIn_mono (fun a' w' h' => ?_) (wpOpF hloud)
   ·refine ih c (pre ++ post) _ a' w' (by simp at hl ⊢; omega) hg hcq g1 (fun p hp => hrl p (by
     rcases List.mem_append.1 hp with h | h
     ·exact List.mem_append_left _ h
     ·exact List.mem_append_right _ (List.mem_cons_of_mem _ h))) (fun j hj h2 => hdis j hj (by
     simp only [idxs_app, List.mem_append] at h2 ⊢
     exact h2.imp id fun h => by simp [idxs] at h ⊢; exact .inr h)) (fun j hj => ?_) (hinv.set hi hlt) h'.2
    by_cases hji : j = i'
    ·subst hji
     have hlt2 : j < listed.size := by rw [hinv.size]; omega
     have h5 : j ∉ idxs c := fun h6 => hdis j h6 hic
     simp only [g2, h5, or_self, iff_false]
     simp [hlt2]
    ·rw [getD_set_ne false (Ne.symm hji), hin j hj]
     simp only [idxs_app, List.mem_append]
     simp [idxs, hji]
def poB (md : Region.Mode) (ops : Array Oper) (n : Nat) (qs ls : List (Nat × Nat)) : Bool :=
 Region.noSelect ops && decide (n ≤ ops.size) && (decide (ops.size ≤ n) || (Region.sinkB md ops n && Region.chainB md ops n)) && Region.seqB md ops (ops.size - n) n ((List.range ops.size).map fun i => decide (i < n)).toArray &&
  decide (qs.length + ls.length = n) && chG md ops n qs && poG md ops n ls && ((List.range n).all fun i => (idxs qs).contains i || (idxs ls).contains i) && ((idxs qs).all fun i => !(idxs ls).contains i) &&
  qs.all fun p => decide (p.1 < 2) && match ops[p.2]? with
   | none => false
   | some o => plainQ o && (o.after.all fun e => !Region.binds md e || !(idxs ls).contains e.on) && ls.all fun z => match ops[z.2]? with
    | none => false
    | some oz => (oz.after.any fun e => Region.binds md e && e.on == p.2) || (o.apart ops oz && (compat p.1 z.1 || freeQ o))
end
section
variable {P : Program} {nn : Fr} {Q : Exit → Act → World → Prop} {E : Env} {w : World} {l : List Oper} {id : Nat}
theorem C_region_po (A : Nat → Prop) (n : Nat) (qs ls : List (Nat × Nat)) (I : (Nat → Bool) → Act → World → Prop) (hm : P.follows .mixedOrders = true) (hB : poB .any l.toArray n qs ls = true)
  (h : ∀ w1, Kp Dw w w1 → w1.heap.size = w.heap.size → CH Dw P nn l.toArray A (I (pend ls)) qs E w1)
  (hs : ∀ (p : Nat → Bool) k i, (k, i) ∈ ls → p i = true → (∀ o, l[i]? = some o → ∀ e ∈ o.after, Region.binds .any e = true → p e.on = false) → ∀ a w1, I p a w1 → wpOpIn (FR nn.ro) 0 P l.toArray QF i (fun a' w' => sw Dw A k w1 w' ∧ I (fun j => j != i && p j) a' w') a w1)
  (he : ∀ a w1, I (fun _ => false) a w1 → wpListIn (FR nn.ro) 0 P l.toArray Q (l.drop n) a w1) : C P nn (.region id l.toArray true) Q E w := by
 intro a ha
 refine wpIn_region_any hm ?_
 simp only [poB, Bool.and_eq_true, decide_eq_true_eq] at hB
 simp only [Bool.or_eq_true, Bool.and_eq_true, decide_eq_true_eq] at hB
 obtain ⟨⟨⟨⟨⟨⟨⟨⟨⟨h1, k1⟩, k2⟩, k3⟩, h2⟩, h3⟩, h4⟩, h5⟩, h6⟩, h7⟩ := hB
 have key := wpAnyIn_po (Dw := Dw) (ro := nn.ro) (A := A) (md := .any) (P := P) (ops := l.toArray) (Q := Q) (I := I) (ls := ls) (qs := qs) (n := n) h1 k1 (fun hlt => k2.resolve_left (by omega)) (fun listed hsz q1 q2 => by
   have e : listed = ((List.range l.toArray.size).map fun i => decide (i < n)).toArray := by
    apply Array.ext
    ·rw [hsz]; simp
    ·intro i hi1 hi2
     have e1 : listed.getD i false = listed[i] := by simp [hi1]
     rw [← e1]
     rcases Nat.lt_or_ge i n with hin | hin
     ·rw [q1 i hin]; simp [hin]
     ·rw [q2 i hin]; simp; omega
   rw [e]
   exact k3) (fun a w h => by
   have e : (pend [] : Nat → Bool) = fun _ => false := by funext j; simp [pend, idxs]
   rw [e] at h
   simpa using he a w h)
  (fun p k i hmem hp hd a w hI => hs p k i hmem hp (fun o ho => hd o (by simpa using ho)) a w hI)
  (fun p hp => by
   have h8 := List.all_eq_true.1 h7 p hp
   simp only [Bool.and_eq_true, decide_eq_true_eq] at h8
   refine ⟨h8.1, ?_⟩
   have h9 := h8.2
   cases ho : l.toArray[p.2]? with
   | none => rw [ho] at h9; cases h9
   | some o =>
    rw [ho] at h9
    simp only [Bool.and_eq_true] at h9
    refine ⟨o, rfl, h9.1.1, fun e he hb => ?_, fun z hz => ?_⟩
    ·have := Array.all_eq_true'.1 h9.1.2 e he
     simpa [hb] using this
    ·have h10 := List.all_eq_true.1 h9.2 z hz
     cases hoz : l.toArray[z.2]? with
     | none => rw [hoz] at h10; cases h10
     | some oz =>
      rw [hoz] at h10
      refine ⟨oz, rfl, ?_⟩
      simp only [Bool.or_eq_true, Bool.and_eq_true] at h10
      refine h10.imp (fun h11 => ?_) (fun h => h)
      obtain ⟨q, hq, h12⟩ := Array.any_eq_true.1 h11
      simp only [Bool.and_eq_true, beq_iff_eq] at h12
      exact ⟨_, Array.getElem_mem hq, h12⟩)
  (qs.length + ls.length) qs ls (Array.replicate l.toArray.size false) a { w with drawn := w.drawn + 1 } rfl (chP_of h3) (fun _ h => h) (poP_of h4) (fun _ h => h) (fun i hi => by
   have := List.all_eq_true.1 h6 i hi
   simpa using this)
  (fun i hi => by
   rw [getD_replicate_false]
   have := List.all_eq_true.1 h5 i (List.mem_range.2 hi)
   simpa using this)
  ⟨by simp, fun j oj _ hl => (by rw [getD_replicate_false] at hl; cases hl), fun t _ ht => getD_in (by simpa using ht) (getD_replicate_false _ _)⟩
  (h _ (Kp.drew (Dw := Dw) _) rfl a ha)
 rw [h2, show n + (l.toArray.size - n) = l.toArray.size by omega] at key
 exact key
theorem XA.cutTr {B : Nat} {A A1 A2 : Nat → Prop} {w0 w1 w2 : World} (t : Tr Dw B A w0 A1 w1) (u : Tr Dw B A1 w1 A2 w2) : XA (fun k => A k ∧ k < w0.heap.size) w1 w2 :=
 ⟨u.ex.size, fun k hk ha => (u.ex.block k hk (t.ex.block k ha.2 ha.1).1).2⟩
theorem XA.cut {A : Nat → Prop} {w0 w1 w2 : World} (he : w1.heap.size = w0.heap.size) (h : XA (fun k => A k ∧ k < w0.heap.size) w1 w2) : XA A w1 w2 := ⟨h.1, fun k hk ha => h.2 k hk ⟨ha, he ▸ hk⟩⟩
theorem XA.cutTrB {B b : Nat} {A A1 A2 : Nat → Prop} {w0 w1 w2 : World} (t : Tr Dw B A w0 A1 w1) (u : Tr Dw B A1 w1 A2 w2) (hb : w2.heap[b]? = w1.heap[b]?) : XA (fun k => A k ∧ k < w0.heap.size ∨ k = b) w1 w2 :=
 ⟨u.ex.size, fun k hk ha => by
  rcases ha with ha | rfl
  ·exact (u.ex.block k hk (t.ex.block k ha.2 ha.1).1).2
  ·exact hb⟩
theorem XA.cutB {A : Nat → Prop} {b : Nat} {w0 w1 w2 : World} (he : w1.heap.size = w0.heap.size) (h : XA (fun k => A k ∧ k < w0.heap.size ∨ k = b) w1 w2) : XA (fun k => A k ∨ k = b) w1 w2 := ⟨h.1, fun k hk ha => h.2 k hk (ha.imp (fun ha => ⟨ha, he ▸ hk⟩) id)⟩
theorem Has.slot {a : Act} {d : Nat} (h : Has nn a E) (hd : Nat.blt d nn.sz = true) : ∃ u, Has nn a ((d, u) :: E) := by
 have hd' : d < nn.sz := Nat.le_of_ble_eq_true hd
 refine ⟨a.tmps[d]'(by rw [h.size]; exact hd'), h.size, h.defers, fun t u hg => ?_⟩
 rw [Env.get] at hg
 cases hb : Nat.beq d t with
 | true =>
  rw [hb] at hg
  have := Nat.eq_of_beq_eq_true hb
  subst this
  obtain rfl := Option.some.inj hg
  exact Array.getElem?_eq_getElem _
 | false =>
  rw [hb] at hg
  exact h.get t u hg
theorem perm_mid {α : Type} (M X L : List α) : (M ++ (X ++ L)).Perm (X ++ (M ++ L)) := by
 rw [← List.append_assoc, ← List.append_assoc]
 exact List.perm_append_comm.append_right L
theorem perm_mid2 {α : Type} (M X Y L : List α) : (M ++ (X ++ (Y ++ L))).Perm (X ++ (Y ++ (M ++ L))) := (perm_mid M X (Y ++ L)).trans ((perm_mid M Y L).append_left X)
theorem V_of {ops : Array Oper} {a : Act} {r : List Oper} (ha : Has nn a E) (h : V P nn ops Q r E w) : wpListIn (FR nn.ro) 0 P ops Q r a w := h a ha
theorem po_dep {p : Nat → Bool} {i : Nat} {o : Oper} (hd : ∀ o, l[i]? = some o → ∀ e ∈ o.after, Region.binds .any e = true → p e.on = false) (ho : l[i]? = some o) (j : Nat) (h : (o.after.any fun e => Region.binds .any e && e.on == j) = true) : p j = false := by
 obtain ⟨q, hq, h1⟩ := Array.any_eq_true.1 h
 simp only [Bool.and_eq_true, beq_iff_eq] at h1
 rw [← h1.2]
 exact hd o ho _ (Array.getElem_mem hq) h1.1
theorem CH_state {A : Nat → Prop} {I : Act → World → Prop} (h : ∀ a, Has nn a E → I a w) : CH Dw P nn l.toArray A I [] E w := h
theorem po_op {A : Nat → Prop} {I' : Act → World → Prop} {a : Act} {o : Oper} {i k : Nat} {r : List Oper} (ha : Has nn a E) (hd : l.drop i = o :: r) (h : V P nn l.toArray (Exit.then (fun a' w' => sw Dw A (k + 2) w w' ∧ I' a' w') QF) [o] E w) :
  wpOpIn (FR nn.ro) 0 P l.toArray QF i (fun a' w' => sw Dw A (k + 2) w w' ∧ I' a' w') a w := by
 have h1 := h a ha
 unfold wpListIn at h1
 unfold wpOpIn
 simp only [drop_get hd]
 split
 ·rename_i hw
  rw [if_pos hw] at h1
  refine ⟨h1.1, ?_⟩
  have h1 := h1.2
  generalize (o.semAt (FR nn.ro).round a.eval).run P w = r at *
  cases r with
  | ok x w' =>
   cases x <;> simp only [Oper.uponIn] at h1 ⊢ <;>
    first
     | exact h1
     | exact ⟨h1.1, CallsIn.mono h1.2 (fun e w'' he => by
       cases e with
       | returned u => exact he
       | panicked c => exact False.elim he
       | outgrown => exact False.elim (by obtain ⟨_, _, h⟩ := he; exact h))⟩
     | exact ⟨h1.1, RoundIn.mono h1.2 (fun e w'' he => by
       cases e with
       | returned u => exact he
       | panicked c => exact False.elim he
       | outgrown => exact False.elim (by obtain ⟨_, _, h⟩ := he; exact h))⟩
  | halt x w' => cases x <;> simp only [Oper.uponIn] at h1 ⊢ <;> exact False.elim h1
 ·rename_i hw
  rw [if_neg hw] at h1
  exact h1
theorem V_po3 {A : Nat → Prop} {w0 : World} {I' : Act → World → Prop} (hk : XA A w0 w) (h : ∀ a, Has nn a E → I' a w) : V P nn l.toArray (Exit.then (fun a' w' => sw Dw A (1 + 2) w0 w' ∧ I' a' w') QF) [] E w := fun a ha => wpListIn_nil ⟨⟨fun h => absurd h (by decide), fun _ => hk⟩, h a ha⟩
end
end Go.Gw
