import Derived.Test.YtiblagcmjobknaaGreatDoorGs
namespace Go.Gw
open Go Go.RowKit Go.Pu
variable {Dw : Prop}
set_option linter.unusedSimpArgs false
set_option linter.unusedVariables false
def zez (o : Oper) : Bool := match o.op with
 | .load .. | .fieldAddr .. | .move _ | .assign _ | .binOp .. | .unOp .. | .extract .. | .field .. | .indexAddr .. | .index .. | .convert .. | .slice .. | .build .. | .nilCheck _ | .lookup .. => true
 | .call ⟨.builtin .len, _, _⟩ | .call ⟨.builtin .min, _, _⟩ | .call ⟨.builtin .max, _, _⟩ => true
 | _ => false
theorem zV {P : Program} {w w' : World} {s : Sem Value} {nx : Next} (h : (do pure (Next.value (← s)) : Sem Next).run P w = .ok nx w') : ∃ v, nx = .value v := by
 simp only [Sem.run_bind] at h
 cases hs : s.run P w with
 | ok v w1 => rw [hs] at h; simp [Result.andThen] at h; exact ⟨v, h.1.symm⟩
 | halt x w1 => rw [hs] at h; simp [Result.andThen] at h
theorem zhK {r : Operand → Value} {o : Oper} {P : Program} {w w' : World} {nx : Next} (ho : zez o = true) (h : (execOp r o).run P w = .ok nx w') : ∃ v, nx = .value v := by
 obtain ⟨dst, op, ty, pos, af, g⟩ := o
 unfold zez at ho
 cases op with
 | move x => simp only [execOp] at h; simp at h; exact ⟨_, h.1.symm⟩
 | assign x => simp only [execOp] at h; simp at h; exact ⟨_, h.1.symm⟩
 | load t a => exact zV h
 | fieldAddr t a i => exact zV h
 | indexAddr t a i => exact zV h
 | unOp op t x => exact zV h
 | extract x i => exact zV h
 | field t x i => exact zV h
 | binOp op t x y t2 => exact zV h
 | index t x i => exact zV h
 | convert a b x => exact zV h
 | slice t x lo hi mx => exact zV h
 | build t ps => exact zV h
 | lookup t x k c => exact zV h
 | nilCheck x =>
  simp only [execOp] at h
  split at h
  ·simp [runtimePanic] at h
  ·simp [runtimePanic] at h
  ·simp [runtimePanic] at h
  ·split at h
   ·simp [runtimePanic] at h
   ·simp [Result.andThen] at h
    split at h
    ·split at h
     ·simp at h; exact ⟨_, h.1.symm⟩
     ·cases h
    ·cases h
   ·simp at h; exact ⟨_, h.1.symm⟩
  ·simp at h; exact ⟨_, h.1.symm⟩
 | call c =>
  obtain ⟨cal, args, ats⟩ := c
  cases cal with
  | builtin b =>
   cases b <;> simp only [Bool.false_eq_true] at ho <;> (simp only [execOp, resolve, invoke, builtin, pure_bind] at h; exact zV h)
  | value f => simp at ho
  | invoke x m => simp at ho
 | _ => simp at ho
theorem zdu : ∀ (m : Nat) (l : List Nat), l.Nodup → (∀ x ∈ l, x < m) → l.length ≤ m ∧ (l.length = m → ∀ j, j < m → j ∈ l)
 | 0, l, _, h => by
  have : l = [] := List.eq_nil_iff_forall_not_mem.2 fun x hx => by have := h x hx; omega
  subst this
  exact ⟨Nat.le_refl _, fun _ j hj => by omega⟩
 | m + 1, l, hnd, h => by
  by_cases hm : m ∈ l
  ·have hlen := List.length_erase_of_mem hm
   have hpos : 0 < l.length := List.length_pos_of_mem hm
   obtain ⟨h1, h2⟩ := zdu m (l.erase m) (hnd.erase m) (fun x hx => by
    have hx2 := (hnd.mem_erase_iff).1 hx
    have := h x hx2.2
    have := hx2.1
    omega)
   refine ⟨by omega, fun hl j hj => ?_⟩
   by_cases hjm : j = m
   ·subst hjm; exact hm
   ·exact ((hnd.mem_erase_iff).1 (h2 (by omega) j (by omega))).2
  ·obtain ⟨h1, h2⟩ := zdu m l hnd (fun x hx => by
    have := h x hx
    have : x ≠ m := fun e => hm (e ▸ hx)
    omega)
   exact ⟨by omega, fun hl => by omega⟩
section
variable {P : Program} {ops : Array Oper} {md : Region.Mode} {W : World → Prop}
def zho (md : Region.Mode) (ops : Array Oper) (g n : Nat) : Nat → Nat → Array Bool → Bool
 | 0, _, listed => Region.seqB md ops g n listed
 | f + 1, k, listed => (Region.ready md ops listed).contains k && Region.free md ops listed k && zho md ops g n f (k + 1) (listed.setIfInBounds k true)
def AllocsAt (P : Program) (ops : Array Oper) : Nat → List (Nat × TypeId × Value) → Prop
 | _, [] => True
 | k, (d, t, z) :: r => (∃ ty pos af, ops[k]? = some ⟨some d, .alloc t, ty, pos, af, none⟩ ∧ (∀ e ∈ af, Region.binds md e = false)) ∧ (∀ w, (zeroValue t).run P w = .ok z w) ∧ AllocsAt P ops (k + 1) r
theorem AllocsAt.get : ∀ {als : List (Nat × TypeId × Value)} {k j : Nat} {d : Nat} {t : TypeId} {z : Value}, AllocsAt (md := md) P ops k als → als[j]? = some (d, t, z) →
  (∃ ty pos af, ops[k + j]? = some ⟨some d, .alloc t, ty, pos, af, none⟩ ∧ (∀ e ∈ af, Region.binds md e = false)) ∧ (∀ w, (zeroValue t).run P w = .ok z w)
 | [], _, _, _, _, _, _, h => by simp at h
 | (d0, t0, z0) :: r, k, 0, d, t, z, hal, h => by simp at h; obtain ⟨rfl, rfl, rfl⟩ := h; exact ⟨hal.1, hal.2.1⟩
 | (d0, t0, z0) :: r, k, j + 1, d, t, z, hal, h => by
  have := AllocsAt.get hal.2.2 (j := j) (by simpa using h)
  rwa [show k + 1 + j = k + (j + 1) by omega] at this
def zlR (md : Region.Mode) (ops : Array Oper) (k n : Nat) (ds : List Nat) : Bool :=
 (List.range k).all fun i => match ops[i]? with
  | some o => zez o && (o.after.all fun e => !(Region.binds md e) || decide (e.on < k)) && (ds.all fun d => !(o.looksAt ops).contains d && o.dst != some d)
  | none => true
structure Fl (k n : Nat) (listed lq : Array Bool) : Prop where
 size : lq.size = listed.size
 le : n ≤ listed.size
 get : ∀ i d, lq.getD i d = if k ≤ i ∧ i < n then true else listed.getD i d
theorem Fl.head {k n i : Nat} {listed lq : Array Bool} (h : Fl k n listed lq) (hi : i < k) : Fl k n (listed.setIfInBounds i true) (lq.setIfInBounds i true) := by
 refine ⟨by simp [h.size], by simpa using h.le, fun j d => ?_⟩
 by_cases hij : i = j
 ·subst hij
  have h1 : i < lq.size ↔ i < listed.size := by rw [h.size]
  rw [if_neg (by omega)]
  simp only [Array.getD_eq_getD_getElem?, Array.getElem?_setIfInBounds_self, h1]
 ·rw [getD_set_ne d hij, getD_set_ne d hij]; exact h.get j d
theorem Fl.alloc {k n i : Nat} {listed lq : Array Bool} (h : Fl k n listed lq) (hi : k ≤ i ∧ i < n) : Fl k n (listed.setIfInBounds i true) lq := by
 refine ⟨by simp [h.size], by simpa using h.le, fun j d => ?_⟩
 by_cases hij : i = j
 ·subst hij; rw [h.get, if_pos hi, if_pos hi]
 ·rw [getD_set_ne d hij]; exact h.get j d
def putA (als : List (Nat × TypeId × Value)) : List (Nat × Nat) → Act → Act
 | [], a => a
 | (j, b) :: ex, a => (putA als ex a).put ((als[j]?).map (·.1)) (.pointer (some ⟨b, 0, none⟩))
def obAt (als : List (Nat × TypeId × Value)) (j b : Nat) : List Ob := match als[j]? with | some (_, t, z) => [obC b z.cells.toList t] | none => []
def objA (als : List (Nat × TypeId × Value)) : List (Nat × Nat) → List Ob
 | [] => []
 | (j, b) :: ex => obAt als j b ++ objA als ex
theorem zgK {als : List (Nat × TypeId × Value)} {o : Oper} (hs : ∀ cs b, o.op ≠ .select cs b) (hd : ∀ (j d : Nat) (t : TypeId) (z : Value), als[j]? = some (d, t, z) → d ∉ o.looksAt ops) (a : Act) : ∀ ex, execOp (putA als ex a).eval o = execOp a.eval o ∧ Region.wanted o (yielded ops (putA als ex a).tmps) = Region.wanted o (yielded ops a.tmps)
 | [] => ⟨rfl, rfl⟩
 | (j, b) :: ex => by
  obtain ⟨h1, h2⟩ := zgK hs hd a ex
  have hx : ∀ d, (als[j]?).map (·.1) = some d → d ∉ o.looksAt ops := fun d h => by
   cases hj : als[j]? with
   | none => rw [hj] at h; cases h
   | some p => obtain ⟨d', t, z⟩ := p; rw [hj] at h; simp at h; subst h; exact hd j _ t z hj
  exact ⟨(execOp_put (ops := ops) o hs _ _ _ hx).trans h1, (wanted_put o _ _ _ hx).trans h2⟩
theorem zhm {als : List (Nat × TypeId × Value)} {dst : Option Nat} {v : Value} (hd : ∀ (j d : Nat) (t : TypeId) (z : Value), als[j]? = some (d, t, z) → dst ≠ some d) (a : Act) : ∀ ex, (putA als ex a).put dst v = putA als ex (a.put dst v)
 | [] => rfl
 | (j, b) :: ex => by
  rw [putA, putA, ← zhm hd a ex]
  refine Act.put_comm _ _ _ fun d h => ?_
  cases hj : als[j]? with
  | none => rw [hj] at h; cases h
  | some p => obtain ⟨d', t, z⟩ := p; rw [hj] at h; simp at h; subst h; exact hd j _ t z hj
def objB : List (Nat × TypeId × Value) → (Nat → Nat) → Nat → List Ob
 | [], _, _ => []
 | (_, t, z) :: r, b, j => obC (b j) z.cells.toList t :: objB r b (j + 1)
def envB : List (Nat × TypeId × Value) → (Nat → Nat) → Nat → Env
 | [], _, _ => []
 | (d, _, _) :: r, b, j => (d, .pointer (some ⟨b j, 0, none⟩)) :: envB r b (j + 1)
theorem zjH {ex : List (Nat × Nat)} (hnd : (ex.map (·.1)).Nodup) : ∃ b : Nat → Nat, ∀ p ∈ ex, p.2 = b p.1 := by
 induction ex with
 | nil => exact ⟨fun _ => 0, fun p hp => by cases hp⟩
 | cons q ex ih =>
  simp only [List.map_cons, List.nodup_cons] at hnd
  obtain ⟨b, hb⟩ := ih hnd.2
  refine ⟨fun j => if j = q.1 then q.2 else b j, fun p hp => ?_⟩
  rcases List.mem_cons.1 hp with rfl | hp
  ·simp
  ·have : p.1 ≠ q.1 := fun e => hnd.1 (by rw [← e]; exact List.mem_map.2 ⟨p, hp, rfl⟩)
   simp [this, hb p hp]
theorem zeX {n : Fr} {E : Env} {als : List (Nat × TypeId × Value)} (hd : ∀ (j d : Nat) (t : TypeId) (z : Value), als[j]? = some (d, t, z) → Nat.blt d n.sz = true ∧ E.get d = none) (hdd : (als.map (·.1)).Nodup) {a : Act} (ha : Has n a E) : ∀ (ex : List (Nat × Nat)), (ex.map (·.1)).Nodup → (∀ p ∈ ex, p.1 < als.length) →
  Has n (putA als ex a) E ∧ ∀ p ∈ ex, ∀ d t z, als[p.1]? = some (d, t, z) → (putA als ex a).tmps[d]? = some (.pointer (some ⟨p.2, 0, none⟩))
 | [], _, _ => ⟨ha, fun p hp => by cases hp⟩
 | (j, c) :: ex, hnd, hl => by
  simp only [List.map_cons, List.nodup_cons] at hnd
  obtain ⟨h1, h2⟩ := zeX hd hdd ha ex hnd.2 (fun p hp => hl p (List.mem_cons_of_mem _ hp))
  have hj := hl (j, c) (by simp)
  obtain ⟨q, hq⟩ : ∃ q, als[j]? = some q := ⟨als[j], by simp [hj]⟩
  obtain ⟨d, t, z⟩ := q
  have hdj := hd j d t z hq
  refine ⟨by rw [putA, hq]; exact h1.skip hdj.2, fun p hp d' t' z' hp' => ?_⟩
  rw [putA, hq]
  rcases List.mem_cons.1 hp with rfl | hp
  ·rw [hq] at hp'
   cases hp'
   have := (h1.put (v := .pointer (some ⟨c, 0, none⟩)) hdj.1).get d (.pointer (some ⟨c, 0, none⟩)) (by simp [Env.get])
   exact this
  ·have hne : d ≠ d' := fun e => by
    subst e
    have hpj : p.1 ≠ j := fun e => hnd.1 (by rw [← e]; exact List.mem_map.2 ⟨p, hp, rfl⟩)
    have hp1 := hl p (List.mem_cons_of_mem _ hp)
    have e1 : (als.map (·.1))[p.1]? = some d := by simp [hp']
    have e2 : (als.map (·.1))[j]? = some d := by simp [hq]
    exact hpj ((List.getElem?_inj (by simpa using hp1) hdd).1 (e1.trans e2.symm))
   have := h2 p hp d' t' z' hp'
   simp only [Option.map_some, Act.put]
   rw [Array.getElem?_setIfInBounds_ne hne]
   exact this
theorem zhX {n : Fr} {E : Env} {b : Nat → Nat} {a : Act} (ha : Has n a E) : ∀ (als pre : List (Nat × TypeId × Value)), (∀ (j d : Nat) (t : TypeId) (z : Value), als[j]? = some (d, t, z) → a.tmps[d]? = some (.pointer (some ⟨b (pre.length + j), 0, none⟩))) → Has n a (envB als b pre.length ++ E)
 | [], pre, _ => ha
 | (d, t, z) :: r, pre, h => by
  have ih := zhX ha r (pre ++ [(d, t, z)]) (fun j d' t' z' hj => by
   have := h (j + 1) d' t' z' (by simpa using hj)
   rw [this]
   simp only [List.length_append, List.length_cons, List.length_nil]
   rw [show pre.length + (j + 1) = pre.length + (0 + 1) + j by omega])
  simp only [List.length_append, List.length_cons, List.length_nil, Nat.zero_add] at ih
  refine ⟨ih.size, ih.defers, fun t' u hg => ?_⟩
  simp only [envB, List.cons_append, Env.get] at hg
  cases hb : Nat.beq d t' with
  | true =>
   rw [hb] at hg
   have := Nat.eq_of_beq_eq_true hb
   subst this
   cases hg
   exact h 0 d t z rfl
  | false => rw [hb] at hg; exact ih.get t' u hg
def allB (md : Region.Mode) (ops : Array Oper) (k n : Nat) (ds : List Nat) : Bool :=
 Region.noSelect ops && decide (n < ops.size) && Region.sinkB md ops n && Region.chainB md ops n && zlR md ops k n ds && decide (k ≤ n) &&
  zho md ops (ops.size - n) n k 0 ((List.range ops.size).map fun i => decide (k ≤ i ∧ i < n)).toArray
end
end Go.Gw
