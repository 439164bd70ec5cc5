/-
  Drawn regions in which new variables are laid while other operations read.
-/
import Derived.Test.YtgmenjhmnjhgoaaDoorGs
namespace Go.Gw
open Go Go.RowKit Go.Pu
variable {Dw : Prop}
set_option linter.unusedSimpArgs false
set_option linter.unusedVariables false

/-- operations that yield a value and leave the world as it is, if they end -/
def plainO (o : Oper) : Bool := match o.op with
  | .load .. | .fieldAddr .. | .move _ | .assign _ | .binOp .. | .unOp .. | .extract .. | .field .. | .indexAddr .. | .index .. | .convert .. | .slice .. | .build .. | .nilCheck _ => true
  | .call ⟨.builtin .len, _, _⟩ | .call ⟨.builtin .min, _, _⟩ | .call ⟨.builtin .max, _, _⟩ => true
  | _ => false
theorem value_of_bind {P : Program} {w w' : World} {s : Sem Value} {nx : Next} (h : (do pure (Next.value (← s)) : Sem Next).run P w = .ok nx w') : ∃ v, nx = .value v := by
  simp only [Sem.run_bind] at h
  cases hs : s.run P w with
  | ok v w1 => rw [hs] at h; simp [Result.andThen] at h; exact ⟨v, h.1.symm⟩
  | halt x w1 => rw [hs] at h; simp [Result.andThen] at h
theorem plainO_value {r : Operand → Value} {o : Oper} {P : Program} {w w' : World} {nx : Next} (ho : plainO o = true) (h : (execOp r o).run P w = .ok nx w') : ∃ v, nx = .value v := by
  obtain ⟨dst, op, ty, pos, af, g⟩ := o
  unfold plainO at ho
  cases op with
  | move x => simp only [execOp] at h; simp at h; exact ⟨_, h.1.symm⟩
  | assign x => simp only [execOp] at h; simp at h; exact ⟨_, h.1.symm⟩
  | load t a => exact value_of_bind h
  | fieldAddr t a i => exact value_of_bind h
  | indexAddr t a i => exact value_of_bind h
  | unOp op t x => exact value_of_bind h
  | extract x i => exact value_of_bind h
  | field t x i => exact value_of_bind h
  | binOp op t x y t2 => exact value_of_bind h
  | index t x i => exact value_of_bind h
  | convert a b x => exact value_of_bind h
  | slice t x lo hi mx => exact value_of_bind h
  | build t ps => exact value_of_bind h
  | nilCheck x =>
    simp only [execOp] at h
    split at h
    · simp [runtimePanic] at h
    · simp [runtimePanic] at h
    · simp [runtimePanic] at h
    · split at h
      · simp [runtimePanic] at h
      · simp [Result.andThen] at h
        split at h
        · split at h
          · simp at h; exact ⟨_, h.1.symm⟩
          · cases h
        · cases h
      · simp at h; exact ⟨_, h.1.symm⟩
    · simp at h; exact ⟨_, h.1.symm⟩
  | call c =>
    obtain ⟨cal, args, ats⟩ := c
    cases cal with
    | builtin b =>
      cases b <;> simp only [Bool.false_eq_true] at ho <;> (simp only [execOp, resolve, invoke, builtin, pure_bind] at h; exact value_of_bind h)
    | value f => simp at ho
    | invoke x m => simp at ho
  | _ => simp at ho

theorem nodup_lt : ∀ (m : Nat) (l : List Nat), l.Nodup → (∀ x ∈ l, x < m) → l.length ≤ m ∧ (l.length = m → ∀ j, j < m → j ∈ l)
  | 0, l, _, h => by
    have : l = [] := List.eq_nil_iff_forall_not_mem.2 fun x hx => by have := h x hx; omega
    subst this
    exact ⟨Nat.le_refl _, fun _ j hj => by omega⟩
  | m + 1, l, hnd, h => by
    by_cases hm : m ∈ l
    · have hlen := List.length_erase_of_mem hm
      have hpos : 0 < l.length := List.length_pos_of_mem hm
      obtain ⟨h1, h2⟩ := nodup_lt m (l.erase m) (hnd.erase m) (fun x hx => by
        have hx2 := (hnd.mem_erase_iff).1 hx
        have := h x hx2.2
        have := hx2.1
        omega)
      refine ⟨by omega, fun hl j hj => ?_⟩
      by_cases hjm : j = m
      · subst hjm; exact hm
      · exact ((hnd.mem_erase_iff).1 (h2 (by omega) j (by omega))).2
    · obtain ⟨h1, h2⟩ := nodup_lt m l hnd (fun x hx => by
        have := h x hx
        have : x ≠ m := fun e => hm (e ▸ hx)
        omega)
      exact ⟨by omega, fun hl => by omega⟩

section
variable {P : Program} {ops : Array Oper} {md : Region.Mode} {W : World → Prop}

/-- heads in their own order, allocations flagged, then the chain behind both -/
def lexHeadA (md : Region.Mode) (ops : Array Oper) (g n : Nat) : Nat → Nat → Array Bool → Bool
  | 0, _, listed => Region.seqB md ops g n listed
  | f + 1, k, listed => (Region.ready md ops listed).contains k && Region.free md ops listed k && lexHeadA md ops g n f (k + 1) (listed.setIfInBounds k true)

theorem wpAnyLQ_lexA {k n g : Nat} {Lq : Act → Prop} (hkn : k ≤ n) (hsel : Region.noSelect ops = true) (hs : Region.sinkB md ops n = true) (hc : Region.chainB md ops n = true) (hn : n < ops.size) :
    ∀ (l : List Oper) (j : Nat) (listed : Array Bool) (a : Act), (∀ i, i < l.length → l[i]? = ops[j + i]?) → j + l.length = k → HeadInv md ops n listed →
    lexHeadA md ops g n l.length j listed = true → wpQuiet P ops W Lq l a →
    wpAnyLQ P md ops W n (fun listed' a' => Region.seqB md ops g n listed' = true ∧ Lq a') l.length listed a
  | [], j, listed, a, _, hk, _, hB, h => ⟨by simpa [lexHeadA] using hB, h⟩
  | o :: l, j, listed, a, hl, hk, inv, hB, h => by
    have h0 : ops[j]? = some o := by simpa using (hl 0 (by simp)).symm
    simp only [List.length_cons, lexHeadA, Bool.and_eq_true] at hB
    obtain ⟨⟨hr, hf⟩, hB'⟩ := hB
    have hjn : j < n := by simp only [List.length_cons] at hk; omega
    have hr' : j ∈ Region.ready md ops listed := by simpa using hr
    have hst : qOp P ops W j (wpQuiet P ops W Lq l) a := by unfold qOp; simp only [h0]; exact h
    obtain ⟨v, hy, hK⟩ := yieldsIn_of_qOp h0 hst
    exact wpAnyLQ_first h0 (Region.noSelect_spec hsel) hs hc hn hjn (fun listed' a' hL => seqB_ready hL.1) l.length listed a inv (Region.free_spec h0 hf) hr' hy
      (wpAnyLQ_lexA hkn hsel hs hc hn l (j + 1) _ _ (fun i hi => by have := hl (i + 1) (by simp; omega); simpa [Nat.add_assoc, Nat.add_comm 1 i] using this) (by simp only [List.length_cons] at hk; omega) (inv.set hr' hjn) hB' hK)

/-- the allocations from index k on -/
def AllocsAt (P : Program) (ops : Array Oper) : Nat → List (Nat × TypeId × Value) → Prop
  | _, [] => True
  | k, (d, t, z) :: r => (∃ ty pos af, ops[k]? = some ⟨some d, .alloc t, ty, pos, af, none⟩ ∧ (∀ e ∈ af, Region.binds md e = false)) ∧ (∀ w, (zeroValue t).run P w = .ok z w) ∧ AllocsAt P ops (k + 1) r

theorem AllocsAt.get : ∀ {als : List (Nat × TypeId × Value)} {k j : Nat} {d : Nat} {t : TypeId} {z : Value}, AllocsAt (md := md) P ops k als → als[j]? = some (d, t, z) →
    (∃ ty pos af, ops[k + j]? = some ⟨some d, .alloc t, ty, pos, af, none⟩ ∧ (∀ e ∈ af, Region.binds md e = false)) ∧ (∀ w, (zeroValue t).run P w = .ok z w)
  | [], _, _, _, _, _, _, h => by simp at h
  | (d0, t0, z0) :: r, k, 0, d, t, z, hal, h => by simp at h; obtain ⟨rfl, rfl, rfl⟩ := h; exact ⟨hal.1, hal.2.1⟩
  | (d0, t0, z0) :: r, k, j + 1, d, t, z, hal, h => by
    have := AllocsAt.get hal.2.2 (j := j) (by simpa using h)
    rwa [show k + 1 + j = k + (j + 1) by omega] at this

/-- heads that may run beside allocations of the slots ds, which lie at the indices from k on, below n -/
def headsB (md : Region.Mode) (ops : Array Oper) (k n : Nat) (ds : List Nat) : Bool :=
  (List.range k).all fun i => match ops[i]? with
    | some o => plainO o && (o.after.all fun e => !(Region.binds md e) || decide (e.on < k)) && (ds.all fun d => !(o.looksAt ops).contains d && o.dst != some d)
    | none => true

structure Fl (k n : Nat) (listed lq : Array Bool) : Prop where
  size : lq.size = listed.size
  le : n ≤ listed.size
  get : ∀ i d, lq.getD i d = if k ≤ i ∧ i < n then true else listed.getD i d

theorem Fl.head {k n i : Nat} {listed lq : Array Bool} (h : Fl k n listed lq) (hi : i < k) : Fl k n (listed.setIfInBounds i true) (lq.setIfInBounds i true) := by
  refine ⟨by simp [h.size], by simpa using h.le, fun j d => ?_⟩
  by_cases hij : i = j
  · subst hij
    have h1 : i < lq.size ↔ i < listed.size := by rw [h.size]
    rw [if_neg (by omega)]
    simp only [Array.getD_eq_getD_getElem?, Array.getElem?_setIfInBounds_self, h1]
  · rw [getD_set_ne d hij, getD_set_ne d hij]; exact h.get j d
theorem Fl.alloc {k n i : Nat} {listed lq : Array Bool} (h : Fl k n listed lq) (hi : k ≤ i ∧ i < n) : Fl k n (listed.setIfInBounds i true) lq := by
  refine ⟨by simp [h.size], by simpa using h.le, fun j d => ?_⟩
  by_cases hij : i = j
  · subst hij; rw [h.get, if_pos hi, if_pos hi]
  · rw [getD_set_ne d hij]; exact h.get j d

/-- the slots of the allocations that have run -/
def putA (als : List (Nat × TypeId × Value)) : List (Nat × Nat) → Act → Act
  | [], a => a
  | (j, b) :: ex, a => (putA als ex a).put ((als[j]?).map (·.1)) (.pointer (some ⟨b, 0, none⟩))
def obAt (als : List (Nat × TypeId × Value)) (j b : Nat) : List Ob := match als[j]? with | some (_, t, z) => [obC b z.cells.toList t] | none => []
def objA (als : List (Nat × TypeId × Value)) : List (Nat × Nat) → List Ob
  | [] => []
  | (j, b) :: ex => obAt als j b ++ objA als ex

theorem putA_eval {als : List (Nat × TypeId × Value)} {o : Oper} (hs : ∀ cs b, o.op ≠ .select cs b) (hd : ∀ (j d : Nat) (t : TypeId) (z : Value), als[j]? = some (d, t, z) → d ∉ o.looksAt ops) (a : Act) : ∀ ex, execOp (putA als ex a).eval o = execOp a.eval o ∧ Region.wanted o (yielded ops (putA als ex a).tmps) = Region.wanted o (yielded ops a.tmps)
  | [] => ⟨rfl, rfl⟩
  | (j, b) :: ex => by
    obtain ⟨h1, h2⟩ := putA_eval hs hd a ex
    have hx : ∀ d, (als[j]?).map (·.1) = some d → d ∉ o.looksAt ops := fun d h => by
      cases hj : als[j]? with
      | none => rw [hj] at h; cases h
      | some p => obtain ⟨d', t, z⟩ := p; rw [hj] at h; simp at h; subst h; exact hd j _ t z hj
    exact ⟨(execOp_put (ops := ops) o hs _ _ _ hx).trans h1, (wanted_put o _ _ _ hx).trans h2⟩
theorem putA_put {als : List (Nat × TypeId × Value)} {dst : Option Nat} {v : Value} (hd : ∀ (j d : Nat) (t : TypeId) (z : Value), als[j]? = some (d, t, z) → dst ≠ some d) (a : Act) : ∀ ex, (putA als ex a).put dst v = putA als ex (a.put dst v)
  | [] => rfl
  | (j, b) :: ex => by
    rw [putA, putA, ← putA_put hd a ex]
    refine Act.put_comm _ _ _ fun d h => ?_
    cases hj : als[j]? with
    | none => rw [hj] at h; cases h
    | some p => obtain ⟨d', t, z⟩ := p; rw [hj] at h; simp at h; subst h; exact hd j _ t z hj

theorem wpAnyIn_allocs {ro : Option Nat} {k n B : Nat} {als : List (Nat × TypeId × Value)} {Q : Exit → Act → World → Prop} {Lq : Act → Prop} {A : Nat → Prop} {w0 : World} {L : List Ob}
    (hkn : k + als.length = n) (hn : n < ops.size) (hsel : Region.noSelect ops = true) (hs : Region.sinkB md ops n = true) (hc : Region.chainB md ops n = true) (hal : AllocsAt (md := md) P ops k als) (hh : headsB md ops k n (als.map (·.1)) = true)
    (hW : ∀ w, Kp Dw w0 w → W w) (hB : B ≤ w0.heap.size)
    (hLq : ∀ ex aQ w A', (ex.map (·.1)).Nodup → (∀ p ∈ ex, p.1 < als.length) → ex.length = als.length → Lq aQ → Hp B A' w (objA als ex ++ L) → Tr Dw B A w0 A' w → wpListIn (FR ro) 0 P ops Q (ops.toList.drop n) (putA als ex aQ) w) :
    ∀ (r f : Nat) (ex : List (Nat × Nat)) (listed lq : Array Bool) (aQ : Act) (w : World) (A' : Nat → Prop), r = f + (als.length - ex.length) → (ex.map (·.1)).Nodup → (∀ p ∈ ex, p.1 < als.length) → Fl k n listed lq → HeadInv md ops n listed →
      (∀ j, j < als.length → (listed.getD (k + j) false = true ↔ j ∈ ex.map (·.1))) →
      wpAnyLQ P md ops W n (fun listed' a' => Region.seqB md ops (ops.size - n) n listed' = true ∧ Lq a') f lq aQ → Hp B A' w (objA als ex ++ L) → Tr Dw B A w0 A' w → Kp Dw w0 w → wpAnyIn (FR ro) 0 P md ops Q (r + (ops.size - n)) listed (putA als ex aQ) w := by
  have hheads : ∀ i o, i < k → ops[i]? = some o → plainO o = true ∧ (∀ e ∈ o.after, Region.binds md e = true → e.on < k) ∧ (∀ (j d : Nat) (t : TypeId) (z : Value), als[j]? = some (d, t, z) → d ∉ o.looksAt ops ∧ o.dst ≠ some d) := by
    intro i o hi ho
    have := List.all_eq_true.1 hh i (List.mem_range.2 hi)
    rw [ho] at this
    simp only [Bool.and_eq_true] at this
    obtain ⟨⟨h1, h2⟩, h3⟩ := this
    refine ⟨h1, fun e he hb => ?_, fun j d t z hj => ?_⟩
    · have := Array.all_eq_true'.1 h2 e he
      simpa [hb] using this
    · have hm : d ∈ als.map (·.1) := List.mem_map.2 ⟨_, List.mem_of_getElem? hj, rfl⟩
      have := List.all_eq_true.1 h3 d hm
      simpa using this
  have hexlen : ∀ ex : List (Nat × Nat), (ex.map (·.1)).Nodup → (∀ p ∈ ex, p.1 < als.length) → ex.length ≤ als.length := by
    intro ex hnd hlt
    have := (nodup_lt als.length (ex.map (·.1)) hnd (fun x hx => by
      obtain ⟨p, hp, rfl⟩ := List.mem_map.1 hx
      exact hlt p hp)).1
    simpa using this
  intro r
  induction r with
  | zero =>
    intro f ex listed lq aQ w A' hr hnd hlt hfl hinv hex hq hH ht hk
    have hf : f = 0 := by omega
    have hl : ex.length = als.length := by have := hexlen ex hnd hlt; omega
    subst hf
    obtain ⟨hseq, hL⟩ := hq
    have hlq : lq = listed := by
      apply Array.ext hfl.size
      intro i h1 h2
      have hg := hfl.get i false
      have e1 : lq.getD i false = lq[i] := by simp [h1]
      have e2 : listed.getD i false = listed[i] := by simp [h2]
      rw [e1, e2] at hg
      rw [hg]
      split
      · rename_i hki
        have hj : i - k < als.length := by omega
        have hmem : (i - k) ∈ ex.map (·.1) := by
          exact (nodup_lt als.length (ex.map (·.1)) hnd (fun x hx => by
            obtain ⟨p, hp, rfl⟩ := List.mem_map.1 hx
            exact hlt p hp)).2 (by simpa using hl) _ hj
        have := (hex (i - k) hj).2 hmem
        rw [show k + (i - k) = i by omega, e2] at this
        exact this.symm
      · rfl
    subst hlq
    rw [Nat.zero_add]
    have := wpAnyIn_of_seq (F := FR ro) (md := md) (Q' := Q) (ops.toList.drop n) n lq (putA als ex aQ) w (fun j => by simp [List.getElem?_drop]) (by simpa using hseq) (hLq ex aQ w A' hnd hlt hl hL hH ht)
    simpa using this
  | succ r ih =>
    intro f ex listed lq aQ w A' hr hnd hlt hfl hinv hex hq hH ht hk
    have hlen := hexlen ex hnd hlt
    -- an index that has not run
    have hun : ∃ i, i < n ∧ listed.getD i true = false ∧ i ∈ Region.ready md ops listed := by
      by_cases hm : ex.length = als.length
      · obtain ⟨f', rfl⟩ : ∃ f', f = f' + 1 := ⟨f - 1, by omega⟩
        obtain ⟨hne, hall⟩ := hq
        obtain ⟨i, hi⟩ := List.exists_mem_of_ne_nil _ hne
        have hin := (hall i hi).1
        obtain ⟨h1, o, ho, h2⟩ := mem_ready.1 hi
        rw [hfl.get] at h1
        have hik : i < k := by
          rcases Nat.lt_or_ge i k with h | h
          · exact h
          · rw [if_pos ⟨h, hin⟩] at h1; cases h1
        rw [if_neg (by omega)] at h1
        refine ⟨i, hin, h1, mem_ready.2 ⟨h1, o, ho, fun e he hb => ?_⟩⟩
        have h3 := h2 e he hb
        have h4 := (hheads i o hik ho).2.1 e he hb
        rw [hfl.get, if_neg (by omega)] at h3
        exact h3
      · have hex2 : ∃ j, j < als.length ∧ j ∉ ex.map (·.1) := by
          refine Classical.byContradiction fun hno => ?_
          have key : ∀ (m : Nat) (l : List Nat), (∀ j, j < m → j ∈ l) → m ≤ l.length := by
            intro m
            induction m with
            | zero => intro l _; omega
            | succ m ih =>
              intro l hl
              have hm := hl m (by omega)
              have h1 := ih (l.erase m) (fun j hj => (List.mem_erase_of_ne (by omega)).2 (hl j (by omega)))
              have h2 := List.length_erase_of_mem hm
              have := List.length_pos_of_mem hm
              omega
          have := key als.length (ex.map (·.1)) (fun j hj => Classical.byContradiction fun h => hno ⟨j, hj, h⟩)
          simp at this
          omega
        obtain ⟨j, hj, hnj⟩ := hex2
        have hfalse : listed.getD (k + j) false = false := by
          cases hv : listed.getD (k + j) false with
          | false => rfl
          | true => exact absurd ((hex j hj).1 hv) hnj
        have hu := getD_in (by rw [hinv.size]; omega) hfalse
        obtain ⟨p, hp⟩ : ∃ p, als[j]? = some p := ⟨als[j], by simp [hj]⟩
        obtain ⟨d, t, z⟩ := p
        obtain ⟨⟨ty, pos, af, ho, hno⟩, _⟩ := hal.get hp
        exact ⟨k + j, by omega, hu, mem_ready.2 ⟨hu, _, ho, fun e he hb => by rw [hno e he] at hb; cases hb⟩⟩
    obtain ⟨i0, hi0, hu0, hr0⟩ := hun
    rw [show r + 1 + (ops.size - n) = (r + (ops.size - n)) + 1 by omega]
    refine ⟨(by intro h; rw [h] at hr0; cases hr0), fun i hi => ?_⟩
    have hin : i < n := by
      rcases Nat.lt_or_ge i n with h | h
      · exact h
      · exact absurd hi (tail_waits hs hc hn hinv _ i0 rfl hi0 hu0 i h)
    obtain ⟨hui, o, ho, hdep⟩ := mem_ready.1 hi
    rcases Nat.lt_or_ge i k with hik | hik
    · -- a head
      have hiq : i ∈ Region.ready md ops lq := mem_ready.2 ⟨by rw [hfl.get, if_neg (by omega)]; exact hui, o, ho, fun e he hb => by
        have h4 := (hheads i o hik ho).2.1 e he hb
        rw [hfl.get, if_neg (by omega)]; exact hdep e he hb⟩
      cases f with
      | zero => have := seqB_ready hq.1 i hiq; omega
      | succ f =>
        have hst := (hq.2 i hiq).2
        obtain ⟨hpl, _, hdd⟩ := hheads i o hik ho
        obtain ⟨e1, e2⟩ := putA_eval (ops := ops) (als := als) (o := o) (fun cs b => Region.noSelect_spec hsel i o cs b ho) (fun j d t z hj => (hdd j d t z hj).1) aQ ex
        have hput : ∀ v, (putA als ex aQ).put o.dst v = putA als ex (aQ.put o.dst v) := fun v => putA_put (fun j d t z hj => (hdd j d t z hj).2) aQ ex
        have next : ∀ v, wpAnyLQ P md ops W n (fun listed' a' => Region.seqB md ops (ops.size - n) n listed' = true ∧ Lq a') f (lq.setIfInBounds i true) (aQ.put o.dst v) →
            wpAnyIn (FR ro) 0 P md ops Q (r + (ops.size - n)) (listed.setIfInBounds i true) ((putA als ex aQ).put o.dst v) w := fun v hv => by
          rw [hput]
          refine ih f ex _ _ _ w A' (by omega) hnd hlt (hfl.head hik) (hinv.set hi hin) (fun j hj => ?_) hv hH ht hk
          rw [getD_set_ne false (by omega)]; exact hex j hj
        unfold qOp at hst
        unfold wpOpIn
        simp only [ho] at hst ⊢
        rw [e2]
        split
        · rename_i hw
          rw [if_pos hw] at hst
          obtain ⟨v, h1, h2⟩ := hst
          have h3 := h1 w (hW w hk)
          unfold Oper.quietAt at h3
          refine ⟨fun _ _ => trivial, ?_⟩
          generalize hrun : (execOp aQ.eval o).run P w = rr at h3
          cases rr with
          | ok nx w' =>
            obtain ⟨u, rfl⟩ := plainO_value hpl hrun
            obtain ⟨rfl, rfl⟩ := h3
            rw [← e1] at hrun
            rw [semAt_run hrun (fun d h => by cases h)]
            exact next _ h2
          | halt x w' => simp only [Oper.quietUpon] at h3
        · rename_i hw
          rw [if_neg hw] at hst
          exact ⟨fun _ _ => trivial, next _ hst⟩
    · -- an allocation
      obtain ⟨p, hp⟩ : ∃ p, als[i - k]? = some p := ⟨als[i - k]'(by omega), List.getElem?_eq_getElem _⟩
      obtain ⟨d, t, z⟩ := p
      obtain ⟨⟨ty, pos, af, ho2, hno⟩, hz⟩ := hal.get hp
      rw [show k + (i - k) = i by omega] at ho2
      have hoe := Option.some.inj (ho.symm.trans ho2)
      subst hoe
      have hnj : (i - k) ∉ ex.map (·.1) := fun h => by
        have := (hex (i - k) (by omega)).2 h
        rw [show k + (i - k) = i by omega, getD_both hui] at this
        cases this
      unfold wpOpIn
      simp only [ho2]
      rw [if_pos (by simp [Region.wanted])]
      refine ⟨fun _ _ => trivial, ?_⟩
      have hrun : (execOp (putA als ex aQ).eval (⟨some d, .alloc t, ty, pos, af, none⟩ : Oper)).run P w = .ok (.value (.pointer (some ⟨w.heap.size, 0, none⟩))) (w.alloc (.cells z.cells t)) := by
        simp only [execOp, Instr.alloc]; simp [hz, newVar, newRow]
      rw [semAt_run hrun (fun d h => by cases h)]
      have hBw := Nat.le_trans hB ht.ex.size
      have hH' : Hp B (fun b => A' b ∧ b ≠ w.heap.size) (w.alloc (.cells z.cells t)) (objA als ((i - k, w.heap.size) :: ex) ++ L) := by
        have := hH.alloc (.cells z.cells t) hBw ht.new
        simp only [objA, obAt, hp]
        simpa using this
      have hnd2 : (((i - k, w.heap.size) :: ex).map (·.1)).Nodup := by simpa using ⟨by simpa using hnj, hnd⟩
      have hlt2 : ∀ p ∈ (i - k, w.heap.size) :: ex, p.1 < als.length := by
        intro p hp
        rcases List.mem_cons.1 hp with rfl | hp
        · show i - k < als.length
          omega
        · exact hlt p hp
      have hlen2 := hexlen _ hnd2 hlt2
      simp only [List.length_cons] at hlen2
      have key := ih f ((i - k, w.heap.size) :: ex) (listed.setIfInBounds i true) lq aQ (w.alloc (.cells z.cells t)) _ (by simp only [List.length_cons]; omega)
        hnd2 hlt2 (hfl.alloc ⟨hik, hin⟩) (hinv.set hi hin) (fun j hj => ?_) hq hH' (ht.trans ((mv_alloc B _ ht.new).tr hBw)) (hk.trans (Kp.alloc _ _))
      · have : putA als ((i - k, w.heap.size) :: ex) aQ = (putA als ex aQ).put (some d) (.pointer (some ⟨w.heap.size, 0, none⟩)) := by
          simp [putA, hp]
        rw [this] at key
        exact key
      · by_cases hji : i = k + j
        · subst hji
          have : (listed.setIfInBounds (k + j) true).getD (k + j) false = true := by
            have hlt2 : k + j < listed.size := by rw [hinv.size]; omega
            simp [hlt2]
          simp [this]
        · rw [getD_set_ne false hji, hex j hj]
          simp only [List.map_cons, List.mem_cons]
          constructor
          · exact .inr
          · rintro (h | h)
            · omega
            · exact h

def objB : List (Nat × TypeId × Value) → (Nat → Nat) → Nat → List Ob
  | [], _, _ => []
  | (_, t, z) :: r, b, j => obC (b j) z.cells.toList t :: objB r b (j + 1)
def envB : List (Nat × TypeId × Value) → (Nat → Nat) → Nat → Env
  | [], _, _ => []
  | (d, _, _) :: r, b, j => (d, .pointer (some ⟨b j, 0, none⟩)) :: envB r b (j + 1)

theorem lookup_ex {ex : List (Nat × Nat)} (hnd : (ex.map (·.1)).Nodup) : ∃ b : Nat → Nat, ∀ p ∈ ex, p.2 = b p.1 := by
  induction ex with
  | nil => exact ⟨fun _ => 0, fun p hp => by cases hp⟩
  | cons q ex ih =>
    simp only [List.map_cons, List.nodup_cons] at hnd
    obtain ⟨b, hb⟩ := ih hnd.2
    refine ⟨fun j => if j = q.1 then q.2 else b j, fun p hp => ?_⟩
    rcases List.mem_cons.1 hp with rfl | hp
    · simp
    · have : p.1 ≠ q.1 := fun e => hnd.1 (by rw [← e]; exact List.mem_map.2 ⟨p, hp, rfl⟩)
      simp [this, hb p hp]

theorem objA_map {als : List (Nat × TypeId × Value)} {b : Nat → Nat} : ∀ {ex : List (Nat × Nat)}, (∀ p ∈ ex, p.1 < als.length) → (∀ p ∈ ex, p.2 = b p.1) →
    objA als ex = (ex.map (·.1)).flatMap fun j => obAt als j (b j)
  | [], _, _ => rfl
  | (j, c) :: ex, hl, hb => by
    have h1 := hb (j, c) (by simp)
    simp only at h1
    subst h1
    simp only [objA, List.map_cons, List.flatMap_cons]
    rw [objA_map (fun p hp => hl p (List.mem_cons_of_mem _ hp)) (fun p hp => hb p (List.mem_cons_of_mem _ hp))]
theorem objB_map (b : Nat → Nat) : ∀ (als : List (Nat × TypeId × Value)) (pre : List (Nat × TypeId × Value)), objB als b pre.length = (List.range' pre.length als.length).flatMap fun j => obAt (pre ++ als) j (b j)
  | [], pre => by simp [objB]
  | (d, t, z) :: r, pre => by
    have := objB_map b r (pre ++ [(d, t, z)])
    simp only [List.length_append, List.length_cons, List.length_nil, Nat.zero_add, List.append_assoc, List.cons_append, List.nil_append] at this
    simp only [objB, List.length_cons, List.range'_succ, List.flatMap_cons]
    rw [this]
    simp [obAt]

theorem putA_has {n : Fr} {E : Env} {als : List (Nat × TypeId × Value)} (hd : ∀ (j d : Nat) (t : TypeId) (z : Value), als[j]? = some (d, t, z) → Nat.blt d n.sz = true ∧ E.get d = none) (hdd : (als.map (·.1)).Nodup) {a : Act} (ha : Has n a E) : ∀ (ex : List (Nat × Nat)), (ex.map (·.1)).Nodup → (∀ p ∈ ex, p.1 < als.length) →
    Has n (putA als ex a) E ∧ ∀ p ∈ ex, ∀ d t z, als[p.1]? = some (d, t, z) → (putA als ex a).tmps[d]? = some (.pointer (some ⟨p.2, 0, none⟩))
  | [], _, _ => ⟨ha, fun p hp => by cases hp⟩
  | (j, c) :: ex, hnd, hl => by
    simp only [List.map_cons, List.nodup_cons] at hnd
    obtain ⟨h1, h2⟩ := putA_has hd hdd ha ex hnd.2 (fun p hp => hl p (List.mem_cons_of_mem _ hp))
    have hj := hl (j, c) (by simp)
    obtain ⟨q, hq⟩ : ∃ q, als[j]? = some q := ⟨als[j], by simp [hj]⟩
    obtain ⟨d, t, z⟩ := q
    have hdj := hd j d t z hq
    refine ⟨by rw [putA, hq]; exact h1.skip hdj.2, fun p hp d' t' z' hp' => ?_⟩
    rw [putA, hq]
    rcases List.mem_cons.1 hp with rfl | hp
    · rw [hq] at hp'
      cases hp'
      have := (h1.put (v := .pointer (some ⟨c, 0, none⟩)) hdj.1).get d (.pointer (some ⟨c, 0, none⟩)) (by simp [Env.get])
      exact this
    · have hne : d ≠ d' := fun e => by
        subst e
        have hpj : p.1 ≠ j := fun e => hnd.1 (by rw [← e]; exact List.mem_map.2 ⟨p, hp, rfl⟩)
        have hp1 := hl p (List.mem_cons_of_mem _ hp)
        have e1 : (als.map (·.1))[p.1]? = some d := by simp [hp']
        have e2 : (als.map (·.1))[j]? = some d := by simp [hq]
        exact hpj ((List.getElem?_inj (by simpa using hp1) hdd).1 (e1.trans e2.symm))
      have := h2 p hp d' t' z' hp'
      simp only [Option.map_some, Act.put]
      rw [Array.getElem?_setIfInBounds_ne hne]
      exact this

theorem envB_has {n : Fr} {E : Env} {b : Nat → Nat} {a : Act} (ha : Has n a E) : ∀ (als pre : List (Nat × TypeId × Value)), (∀ (j d : Nat) (t : TypeId) (z : Value), als[j]? = some (d, t, z) → a.tmps[d]? = some (.pointer (some ⟨b (pre.length + j), 0, none⟩))) → Has n a (envB als b pre.length ++ E)
  | [], pre, _ => ha
  | (d, t, z) :: r, pre, h => by
    have ih := envB_has ha r (pre ++ [(d, t, z)]) (fun j d' t' z' hj => by
      have := h (j + 1) d' t' z' (by simpa using hj)
      rw [this]
      simp only [List.length_append, List.length_cons, List.length_nil]
      rw [show pre.length + (j + 1) = pre.length + (0 + 1) + j by omega])
    simp only [List.length_append, List.length_cons, List.length_nil, Nat.zero_add] at ih
    refine ⟨ih.size, ih.defers, fun t' u hg => ?_⟩
    simp only [envB, List.cons_append, Env.get] at hg
    cases hb : Nat.beq d t' with
    | true =>
      rw [hb] at hg
      have := Nat.eq_of_beq_eq_true hb
      subst this
      cases hg
      exact h 0 d t z rfl
    | false => rw [hb] at hg; exact ih.get t' u hg

def allB (md : Region.Mode) (ops : Array Oper) (k n : Nat) (ds : List Nat) : Bool :=
  Region.noSelect ops && decide (n < ops.size) && Region.sinkB md ops n && Region.chainB md ops n && headsB md ops k n ds && decide (k ≤ n) &&
    lexHeadA md ops (ops.size - n) n k 0 ((List.range ops.size).map fun i => decide (k ≤ i ∧ i < n)).toArray

theorem C_region_al {nn : Fr} {Q : Exit → Act → World → Prop} {E : Env} {w : World} {l : List Oper} {id k n B : Nat} {A : Nat → Prop} {L : List Ob} (als : List (Nat × TypeId × Value)) (hm : P.follows .mixedOrders = true) (hall : allB .any l.toArray k n (als.map (·.1)) = true) (hkn : k + als.length = n) (hal : AllocsAt (md := .any) P l.toArray k als)
    (hds : (als.all fun p => Nat.blt p.1 nn.sz) = true) (hdd : (als.map (·.1)).Nodup) (hH : Hp B A w L) (hB : B ≤ w.heap.size) (hA : ∀ b, w.heap.size ≤ b → A b)
    (h : VQ P nn l.toArray (fun w' => Kp Dw w w') (fun a' => ∃ E', Has nn a' E' ∧ (als.all fun p => (E'.get p.1).isNone) = true ∧ ∀ (b : Nat → Nat) (w' : World) (A' : Nat → Prop), Hp B A' w' (objB als b 0 ++ L) → Tr Dw B A w A' w' → V P nn l.toArray Q (l.drop n) (envB als b 0 ++ E') w') (l.take k) E) :
    C P nn (.region id l.toArray true) Q E w := by
  intro a ha
  simp only [allB, Bool.and_eq_true, decide_eq_true_eq] at hall
  obtain ⟨⟨⟨⟨⟨⟨hsel, hn⟩, hs⟩, hc⟩, hh⟩, hkn2⟩, hlex⟩ := hall
  refine wpIn_region_any hm ?_
  have hsz : ((List.range l.toArray.size).map fun i => decide (k ≤ i ∧ i < n)).toArray.size = l.toArray.size := by simp
  have hgetf : ∀ i d, (((List.range l.toArray.size).map fun i => decide (k ≤ i ∧ i < n)).toArray).getD i d = if k ≤ i ∧ i < n then true else (Array.replicate l.toArray.size false).getD i d := by
    intro i d
    rcases Nat.lt_or_ge i l.toArray.size with hi | hi
    · have hi' : i < l.length := by simpa using hi
      by_cases hki : k ≤ i ∧ i < n
      · simp [hi', hki]
      · simp [hi', hki]
        omega
    · have hi' : ¬ i < l.length := by simpa using hi
      rw [if_neg (by omega)]
      simp [hi']
  have inv0 : HeadInv .any l.toArray n (((List.range l.toArray.size).map fun i => decide (k ≤ i ∧ i < n)).toArray) := by
    refine ⟨hsz, fun j oj hj hl e he hb => ?_, fun t ht ht' => ?_⟩
    · rw [hgetf] at hl
      split at hl
      · rename_i hki
        obtain ⟨p, hp⟩ : ∃ p, als[j - k]? = some p := ⟨als[j - k]'(by omega), List.getElem?_eq_getElem _⟩
        obtain ⟨d, t, z⟩ := p
        obtain ⟨⟨ty, pos, af, ho2, hno⟩, _⟩ := hal.get hp
        rw [show k + (j - k) = j by omega] at ho2
        have := Option.some.inj (hj.symm.trans ho2)
        subst this
        rw [hno e he] at hb
        cases hb
      · rw [getD_replicate_false] at hl; cases hl
    · rw [hgetf, if_neg (by omega)]
      exact getD_in (by simpa using ht') (getD_replicate_false _ _)
  have hnl : n < l.length := by simpa using hn
  have htl : (l.take k).length = k := by rw [List.length_take]; omega
  have hfl : Fl k n (Array.replicate l.toArray.size false) (((List.range l.toArray.size).map fun i => decide (k ≤ i ∧ i < n)).toArray) := ⟨by simp, by rw [Array.size_replicate]; omega, hgetf⟩
  have hq := wpAnyLQ_lexA (md := .any) (g := l.toArray.size - n) (k := k) (n := n) hkn2 hsel hs hc hn (l.take k) 0 _ a (fun j hj => by
    have hj' : j < k := by rw [htl] at hj; exact hj
    simp [hj']) (by simpa using htl) inv0 (by rw [htl]; exact hlex) (h a ha)
  rw [htl] at hq
  have key := wpAnyIn_allocs (ro := nn.ro) (md := .any) (P := P) (ops := l.toArray) (W := fun w' => Kp Dw w w') (Q := Q) (A := A) (w0 := w) (L := L) (B := B) (als := als) hkn hn hsel hs hc hal hh (fun w' hw' => hw') hB ?_
    (k + als.length) k [] (Array.replicate l.toArray.size false) _ a { w with drawn := w.drawn + 1 } A (by simp) (by simp) (by simp) hfl
    ⟨by simp, fun j oj _ hl => (by rw [getD_replicate_false] at hl; cases hl), fun t _ ht => getD_in (by simpa using ht) (getD_replicate_false _ _)⟩ (fun j hj => by rw [getD_replicate_false]; simp) hq (by
      show Hp B A _ ([] ++ L)
      exact hH.kp (Kp.drew (Dw := Dw) _)) (Kp.tr (Kp.drew (Dw := Dw) w) hA hB) (Kp.drew (Dw := Dw) _)
  · rw [hkn] at key
    have e : n + (l.toArray.size - n) = l.toArray.size := by omega
    rw [e] at key
    exact key
  · intro ex aQ w' A' hnd hlt hlen hL hH' ht
    obtain ⟨E', hE', hnone, hv⟩ := hL
    obtain ⟨b, hb⟩ := lookup_ex hnd
    have hnone' : ∀ (j d : Nat) (t : TypeId) (z : Value), als[j]? = some (d, t, z) → Nat.blt d nn.sz = true ∧ E'.get d = none := by
      intro j d t z hj
      have hm := List.mem_of_getElem? hj
      have h1 := List.all_eq_true.1 hds _ hm
      have h2 := List.all_eq_true.1 hnone _ hm
      exact ⟨h1, Option.isNone_iff_eq_none.1 h2⟩
    obtain ⟨h1, h2⟩ := putA_has hnone' hdd hE' ex hnd hlt
    have hfull : ∀ j, j < als.length → j ∈ ex.map (·.1) := (nodup_lt als.length (ex.map (·.1)) hnd (fun x hx => by
      obtain ⟨p, hp, rfl⟩ := List.mem_map.1 hx
      exact hlt p hp)).2 (by simpa using hlen)
    have hslots : ∀ (j d : Nat) (t : TypeId) (z : Value), als[j]? = some (d, t, z) → (putA als ex aQ).tmps[d]? = some (.pointer (some ⟨b (([] : List (Nat × TypeId × Value)).length + j), 0, none⟩)) := by
      intro j d t z hj
      obtain ⟨p, hp, rfl⟩ := List.mem_map.1 (hfull j (List.getElem?_eq_some_iff.1 hj).1)
      have := h2 p hp d t z hj
      rw [hb p hp] at this
      simpa using this
    have hperm : (objA als ex).Perm (objB als b 0) := by
      rw [objA_map hlt hb, show objB als b 0 = objB als b ([] : List (Nat × TypeId × Value)).length from rfl, objB_map b als []]
      simp only [List.length_nil, List.nil_append]
      refine List.Perm.flatMap_right _ ?_
      rw [← List.range_eq_range']
      refine (List.perm_ext_iff_of_nodup hnd List.nodup_range).2 fun j => ?_
      constructor
      · intro hj
        obtain ⟨p, hp, rfl⟩ := List.mem_map.1 hj
        exact List.mem_range.2 (hlt p hp)
      · intro hj
        exact hfull j (List.mem_range.1 hj)
    have hH2 : Hp B A' w' (objB als b 0 ++ L) := hH'.perm (hperm.append_right L)
    have := hv b w' A' hH2 ht _ (envB_has h1 als [] hslots)
    simpa using this
end
end Go.Gw
