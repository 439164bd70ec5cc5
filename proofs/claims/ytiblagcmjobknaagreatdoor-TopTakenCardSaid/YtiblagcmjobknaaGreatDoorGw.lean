import Derived.WalkKit
import Derived.Deep.Quiet
import Derived.Deep.LoopGhost
import Derived.StillTail
import Derived.OrdersIn
import Derived.RangeFuncRecord
import Derived.OwnWalkIn
import Derived.Test.YtiblagcmjobknaaGreatDoorPu
namespace Go.Gw
open Go Go.RowKit Go.Pu
structure Bel (Dw : Prop) (B : Nat) (w w' : World) : Prop where
 os : w'.os = w.os
 tape : w'.tape = w.tape
 output : w'.output = w.output
 size : w.heap.size ≤ w'.heap.size
 dr : Dw → w.drawn ≤ w'.drawn
 block : ∀ k, k < B → w'.heap[k]? = w.heap[k]?
abbrev Kp (Dw : Prop) (w w' : World) : Prop := Bel Dw w.heap.size w w'
theorem Bel.below {Dw : Prop} {B : Nat} {w w' : World} (h : Bel Dw B w w') : Below B w w' := ⟨h.os, h.tape, h.output, h.size, h.block⟩
theorem Bel.refl {Dw : Prop} (B : Nat) (w : World) : Bel Dw B w w := ⟨rfl, rfl, rfl, Nat.le_refl _, fun _ => Nat.le_refl _, fun _ _ => rfl⟩
theorem Bel.trans {Dw : Prop} {B : Nat} {a b c : World} (h : Bel Dw B a b) (k : Bel Dw B b c) : Bel Dw B a c :=
 ⟨k.os.trans h.os, k.tape.trans h.tape, k.output.trans h.output, Nat.le_trans h.size k.size, fun d => Nat.le_trans (h.dr d) (k.dr d), fun i hi => (k.block i hi).trans (h.block i hi)⟩
theorem Bel.mono {Dw : Prop} {B B' : Nat} {w w' : World} (h : Bel Dw B w w') (hB : B' ≤ B) : Bel Dw B' w w' := ⟨h.os, h.tape, h.output, h.size, h.dr, fun k hk => h.block k (Nat.lt_of_lt_of_le hk hB)⟩
theorem Bel.drew {Dw : Prop} (w : World) : Bel Dw w.heap.size w w.drew := ⟨rfl, rfl, rfl, Nat.le_refl _, fun _ => Nat.le_succ _, fun _ _ => rfl⟩
set_option linter.unusedSimpArgs false
set_option linter.unusedVariables false
structure Fr where
 sz : Nat
 ds : List Deferred := []
 ro : Option Nat := none
def FR (ro : Option Nat) : Fence := { Fence.wide with round := ro }
theorem zkO (ro : Option Nat) : (FR ro).round = ro := rfl
theorem zdA (ro : Option Nat) {p : Prop} : (FR ro).depth.isSome = true → p := fun h => by cases h
theorem zga {ro : Option Nat} {n : Nat} {P : Program} {f : FuncId} {args : Array Value} {w : World} {R : Ending → World → Prop} (h : Calls P f args w R) : CallsIn (FR ro) n P f args w R :=
 (callsIn_wide (n := n)).2 h
theorem zkI {ro : Option Nat} {n : Nat} {P : Program} {f : FuncId} {args : Array Value} {w : World} {R : Ending → World → Prop} (h : CallsIn (FR ro) n P f args w R) : Calls P f args w R :=
 (callsIn_wide (n := n)).1 h
theorem wpFR {c : Code} {P : Program} {Q : Exit → Act → World → Prop} {a : Act} {w : World} : c.wpIn (FR none) 0 P Q a w ↔ c.wp P Q a w := wpIn_wide
theorem zfp {r : Operand → Value} {o : Oper} {P : Program} {w w' : World} {c : Call} {nx : Next} (ho : o.op = .defer c) (h : (execOp r o).run P w = .ok nx w') : ∃ d, nx = .defer d := by
 simp only [execOp, ho, Sem.run_bind] at h
 cases hr : (resolve r c o.type).run P w with
 | ok d w1 => rw [hr] at h; simp [Result.andThen] at h; exact ⟨d, h.1.symm⟩
 | halt x w1 => rw [hr] at h; simp [Result.andThen] at h
theorem Qe {ro : Option Nat} {r : Operand → Value} {o : Oper} {P : Program} {w w' : World} {nx : Next} (h : (execOp r o).run P w = .ok nx w') (hn : ∀ d, nx ≠ .defer d) : (o.semAt ro r).run P w = .ok nx w' := by
 rw [Oper.semAt_eq]
 ·exact h
 ·intro c hc
  obtain ⟨d, rfl⟩ := zfp hc h
  exact hn d rfl
abbrev Env := List (Nat × Value)
def Env.get : Env → Nat → Option Value
 | [], _ => none
 | (k, v) :: r, t => bif Nat.beq k t then some v else Env.get r t
structure Has (n : Fr) (a : Act) (E : Env) : Prop where
 size : a.tmps.size = n.sz
 defers : a.defers = n.ds
 get : ∀ t v, E.get t = some v → a.tmps[t]? = some v
def ev (E : Env) : Operand → Option Value
 | .tmp t => E.get t
 | .const v => some v
 | .global g => some (.pointer (some ⟨g, 0, none⟩))
 | .func f => some (.func (.func f) #[] #[])
def evs (E : Env) : List Operand → Option (List Value)
 | [] => some []
 | x :: r => match ev E x, evs E r with
  | some v, some vs => some (v :: vs)
  | _, _ => none
def subE : Env → Env → Prop
 | [], _ => True
 | (t, v) :: r, E => E.get t = some v ∧ subE r E
theorem zkA {E' E : Env} (h : subE E' E) {t : Nat} {v : Value} (hg : E'.get t = some v) : E.get t = some v := by
 induction E' with
 | nil => simp [Env.get] at hg
 | cons p r ih =>
  obtain ⟨k, u⟩ := p
  rw [Env.get] at hg
  cases hb : Nat.beq k t with
  | true =>
   rw [hb] at hg
   have := Nat.eq_of_beq_eq_true hb
   subst this
   cases hg
   exact h.1
  | false =>
   rw [hb] at hg
   exact ih h.2 hg
section
variable {n : Fr} {a : Act} {E E' : Env} {x : Operand} {v : Value} {d : Nat}
theorem Has.sub (h : Has n a E) (hs : subE E' E) : Has n a E' := ⟨h.size, h.defers, fun _ _ hg => h.get _ _ (zkA hs hg)⟩
theorem Has.eval (h : Has n a E) (hx : ev E x = some v) : a.eval x = v := by
 cases x with
 | tmp t =>
  have := h.get t v hx
  simp [Act.eval, Array.getD_eq_getD_getElem?, this]
 | const u => exact Option.some.inj hx
 | global g => exact Option.some.inj hx
 | func f => exact Option.some.inj hx
theorem Has.evals (h : Has n a E) {xs : List Operand} {vs : List Value} (hx : evs E xs = some vs) : xs.map a.eval = vs := by
 induction xs generalizing vs with
 | nil => cases hx; rfl
 | cons y r ih =>
  rw [evs] at hx
  split at hx
  ·rename_i v vs' h1 h2
   cases hx
   rw [List.map_cons, h.eval h1, ih h2]
  ·cases hx
theorem Has.put (h : Has n a E) (hd : Nat.blt d n.sz = true) : Has n (a.put (some d) v) ((d, v) :: E) := by
 have hd' : d < n.sz := Nat.le_of_ble_eq_true hd
 refine ⟨by simp [Act.put, h.size], h.defers, fun t u hg => ?_⟩
 rw [Env.get] at hg
 cases hb : Nat.beq d t with
 | true =>
  rw [hb] at hg
  have := Nat.eq_of_beq_eq_true hb
  subst this
  cases hg
  simp [Act.put, h.size, hd']
 | false =>
  rw [hb] at hg
  have hne : d ≠ t := Nat.ne_of_beq_eq_false hb
  simp only [Act.put]
  rw [Array.getElem?_setIfInBounds_ne hne]
  exact h.get t u hg
theorem Has.skip (h : Has n a E) (hd : E.get d = none) : Has n (a.put (some d) v) E := by
 refine ⟨by simp [Act.put, h.size], h.defers, fun t u hg => ?_⟩
 have hne : d ≠ t := fun e => by subst e; rw [hd] at hg; cases hg
 simp only [Act.put]
 rw [Array.getElem?_setIfInBounds_ne hne]
 exact h.get t u hg
end
def zeG : Nat → List Value → Env
 | _, [] => []
 | i, v :: r => (i, v) :: zeG (i + 1) r
theorem zgr (vs : List Value) (i t : Nat) (v : Value) (h : (zeG i vs).get t = some v) : i ≤ t ∧ vs[t - i]? = some v := by
 induction vs generalizing i with
 | nil => simp [zeG, Env.get] at h
 | cons u r ih =>
  rw [zeG, Env.get] at h
  cases hb : Nat.beq i t with
  | true =>
   rw [hb] at h
   have := Nat.eq_of_beq_eq_true hb
   subst this
   cases h
   simp
  | false =>
   rw [hb] at h
   have hne : i ≠ t := Nat.ne_of_beq_eq_false hb
   obtain ⟨h1, h2⟩ := ih (i + 1) h
   refine ⟨by omega, ?_⟩
   rw [show t - i = (t - (i + 1)) + 1 by omega, List.getElem?_cons_succ]
   exact h2
def C (P : Program) (n : Fr) (c : Code) (Q : Exit → Act → World → Prop) (E : Env) (w : World) : Prop := ∀ a, Has n a E → c.wpIn (FR n.ro) 0 P Q a w
def V (P : Program) (n : Fr) (ops : Array Oper) (Q : Exit → Act → World → Prop) (l : List Oper) (E : Env) (w : World) : Prop := ∀ a, Has n a E → wpListIn (FR n.ro) 0 P ops Q l a w
def VQ (P : Program) (n : Fr) (ops : Array Oper) (W : World → Prop) (Q : Act → Prop) (l : List Oper) (E : Env) : Prop := ∀ a, Has n a E → wpQuiet P ops W Q l a
def Ret (P : Program) (f : FuncId) (args : Array Value) (w : World) (R : Value → World → Prop) : Prop :=
 Calls P f args w fun e w' => ∃ v, e = .returned v ∧ R v w'
theorem Ret.mono {P : Program} {f : FuncId} {args : Array Value} {w : World} {R R' : Value → World → Prop} (h : Ret P f args w R) (hr : ∀ v w', R v w' → R' v w') : Ret P f args w R' :=
 Calls.mono h fun _ _ ⟨v, he, hv⟩ => ⟨v, he, hr _ _ hv⟩
def zfL (P : Program) (fn : Func) (R : Value → World → Prop) : Exit → Act → World → Prop := bodyPost P fn fun e w' => ∃ v, e = .returned v ∧ R v w'
theorem enter {P : Program} {f : FuncId} {fn : Func} {c : Code} {args : Array Value} {w : World} {R : Value → World → Prop} {n : Nat}
  (hf : P.funcs[f]? = some fn) (hb : fn.body = some c) (hn : fn.ntmps = n) (hle : Nat.ble args.size n = true)
  (h : C P ⟨n, [], none⟩ c (zfL P fn R) (zeG 0 args.toList) w) : Ret P f args w R := by
 refine calls_of_wp hf hb (wpFR.1 (h _ ⟨?_, rfl, fun t v hg => ?_⟩))
 ·simp only [Array.size_append, Array.size_replicate, hn]
  have := Nat.le_of_ble_eq_true hle
  omega
 ·obtain ⟨_, h2⟩ := zgr _ _ _ _ hg
  simp only [Nat.sub_zero, Array.getElem?_toList] at h2
  have hlt : t < args.size := by
   rcases Nat.lt_or_ge t args.size with h' | h'
   ·exact h'
   ·rw [Array.getElem?_eq_none h'] at h2; cases h2
  simp only []
  rw [Array.getElem?_append_left hlt]
  exact h2
section code
variable {P : Program} {n : Fr} {Q Q' : Exit → Act → World → Prop} {E E' : Env} {w : World} {c x y : Code}
theorem zh (h : C P n x (Exit.then (fun a w => y.wpIn (FR n.ro) 0 P Q a w) Q) E w) : C P n (.seq x y) Q E w := fun a ha => wpIn_seq (h a ha)
theorem qL (h : ∀ a, Has n a E → Q .normal a w) : C P n .skip Q E w := fun a ha => wpIn_skip (h a ha)
theorem zo {id : Nat} {l : List Oper} (h : V P n l.toArray Q l E w) : C P n (.region id l.toArray false) Q E w := fun a ha => wpIn_region_lit (h a ha)
theorem zl {id : Nat} (h : C P n c (Exit.inBlock id Q) E w) : C P n (.block id c) Q E w := fun a ha => wpIn_block (h a ha)
theorem zQ {id : Nat} (h : ∀ a, Has n a E → Q (.exit id) a w) : C P n (.exit id) Q E w := fun a ha => wpIn_exit (h a ha)
theorem jP (h : ∀ a, Has n a E → Q .ret a w) : C P n .ret Q E w := fun a ha => wpIn_ret (h a ha)
theorem zlG {o : Operand} {b : Bool} (ho : ev E o = some (.bool b)) (ht : b = true → C P n x Q E w) (hf : b = false → C P n y Q E w) : C P n (.cond o x y) Q E w :=
 fun a ha => wpIn_cond_split (ha.eval ho) (fun h => ht h a ha) (fun h => hf h a ha)
theorem zn {ops : Array Oper} (h : ∀ a, Has n a E → Q .normal a w) : V P n ops Q [] E w := fun a ha => wpListIn_nil (h a ha)
theorem zfy {F : Fence} {k : Nat} {a : Act} (I : Nat → Act → World → Prop) (n₀ : Nat) (h₀ : I n₀ a w)
  (round : ∀ m a w, I m a w → c.wpIn F k P (Exit.then (fun a' w' => ∃ m', m' < m ∧ I m' a' w') Q) a w) : (Code.loop c).wpIn F k P Q a w := by
 refine wpIn_loop (fun a w => ∃ m, I m a w) (fun a w => leastOf (fun m => I m a w)) ⟨n₀, h₀⟩ ?_
 intro a w hJ
 obtain ⟨h1, h2⟩ := leastOf_spec hJ
 refine wpIn_mono (round _ a w h1) ?_
 intro e a' w' hq
 cases e with
 | normal =>
  obtain ⟨m', hlt, hI⟩ := hq
  have hJ' : ∃ m, I m a' w' := ⟨m', hI⟩
  exact ⟨hJ', Nat.lt_of_le_of_lt ((leastOf_spec hJ').2 m' hI) hlt⟩
 | exit id => exact hq
 | goto l => exact hq
 | ret => exact hq
 | panic ch => exact hq
 | outgrown => exact hq
theorem zkd (I : Nat → Act → World → Prop) (n₀ : Nat) (h₀ : ∀ a, Has n a E → I n₀ a w)
  (round : ∀ m a w, I m a w → c.wpIn (FR n.ro) 0 P (Exit.then (fun a' w' => ∃ m', m' < m ∧ I m' a' w') Q) a w) : C P n (.loop c) Q E w :=
 fun a ha => zfy I n₀ (h₀ a ha) round
theorem zbd {S R : Type} {body : S → Option (Ctl S R)} {s₀ : S} {r : Lp S R} (hm : QT body s₀ = some r) (Inv : S → Act → World → Prop) (h₀ : ∀ a, Has n a E → Inv s₀ a w)
  (round : ∀ (K : S → Prop) s a w, Inv s a w → (∃ x, body s = some x ∧ (match x with | .nx s' => K s' | .bk s' => Lp.fin s' = r | .rt y => Lp.rt y = r)) →
   c.wpIn (FR n.ro) 0 P (Exit.then (fun a' w' => ∃ s', K s' ∧ Inv s' a' w') Q) a w) : C P n (.loop c) Q E w := by
 obtain ⟨k, hk⟩ := zaj.1 hm
 refine zkd (fun m a w => ∃ s, qJ body m s = some r ∧ Inv s a w) k (fun a ha => ⟨s₀, hk, h₀ a ha⟩) ?_
 rintro m a w ⟨s, hs, hI⟩
 cases m with
 | zero => simp [qJ] at hs
 | succ m =>
  refine wpIn_mono (round (fun s' => qJ body m s' = some r) s a w hI ?_) ?_
  ·rw [qJ] at hs
   split at hs <;> simp_all
  ·intro e a' w' hq
   cases e with
   | normal => obtain ⟨s', h1, h2⟩ := hq; exact ⟨m, by omega, s', h1, h2⟩
   | exit id => exact hq
   | goto l => exact hq
   | ret => exact hq
   | panic ch => exact hq
   | outgrown => exact hq
theorem zS {S R : Type} {body : Nat → S → Option (Ctl S R)} {N : Nat} {s₀ : S} {r : Lp S R} (hm : zE body N 0 s₀ = some r) (Inv : Nat → S → Act → World → Prop) (h₀ : ∀ a, Has n a E → Inv 0 s₀ a w)
  (round : ∀ (K : S → Prop) k s a w, Inv k s a w → k ≤ N → (k < N → ∃ x, body k s = some x ∧ (match x with | .nx s' => K s' | .bk s' => Lp.fin s' = r | .rt y => Lp.rt y = r)) → (k = N → Lp.fin s = r) →
   c.wpIn (FR n.ro) 0 P (Exit.then (fun a' w' => ∃ s', k < N ∧ K s' ∧ Inv (k + 1) s' a' w') Q) a w) : C P n (.loop c) Q E w := by
 refine zkd (fun m a w => ∃ k s, m = N - k ∧ k ≤ N ∧ zE body (N - k) k s = some r ∧ Inv k s a w) N (fun a ha => ⟨0, s₀, rfl, by omega, hm, h₀ a ha⟩) ?_
 rintro m a w ⟨k, s, rfl, hk, hs, hI⟩
 refine wpIn_mono (round (fun s' => zE body (N - (k + 1)) (k + 1) s' = some r) k s a w hI hk ?_ ?_) ?_
 ·intro hlt
  rw [show N - k = (N - (k + 1)) + 1 by omega, zE] at hs
  split at hs <;> simp_all
 ·intro he
  rw [show N - k = 0 by omega, zE] at hs
  exact Option.some.inj hs
 ·intro e a' w' hq
  cases e with
  | normal => obtain ⟨s', hlt, h1, h2⟩ := hq; exact ⟨N - (k + 1), by omega, k + 1, s', rfl, by omega, h1, h2⟩
  | exit id => exact hq
  | goto l => exact hq
  | ret => exact hq
  | panic ch => exact hq
  | outgrown => exact hq
end code
section ret
variable {P : Program} {n : Fr} {fn : Func} {E : Env} {w : World} {a : Act} {R : Value → World → Prop}
theorem Has.getD {t : Nat} {v : Value} (h : Has n a E) (ht : E.get t = some v) : a.tmps.getD t undef = v := by
 simp [Array.getD_eq_getD_getElem?, h.get t v ht]
end ret
def Y (P : Program) (n : Fr) (E : Env) (o : Oper) (w : World) (v : Value) (w' : World) : Prop := ∀ a, Has n a E → (execOp a.eval o).run P w = .ok (.value v) w'
section steps
variable {P : Program} {n : Fr} {ops : Array Oper} {Q : Exit → Act → World → Prop} {E E' : Env} {w w' : World} {o : Oper} {rest l : List Oper} {v : Value} {d : Nat} {W : World → Prop} {QA : Act → Prop}
theorem V_y (hy : Y P n E o w v w') (hg : o.guard = none) (hd : o.dst = some d) (hn : Nat.blt d n.sz = true) (h : V P n ops Q rest ((d, v) :: E) w') : V P n ops Q (o :: rest) E w := by
 intro a ha
 refine wpListIn_plain hg fun K hK => ⟨fun _ _ => trivial, ?_⟩
 rw [Qe (hy a ha) (fun d h => by cases h), Oper.uponIn_value, hd]
 exact hK _ _ (h _ (ha.put hn))
theorem VQ_y (hy : ∀ w, W w → Y P n E o w v w) (hg : o.guard = none) (hd : o.dst = some d) (hn : Nat.blt d n.sz = true) (h : VQ P n ops W QA rest ((d, v) :: E)) : VQ P n ops W QA (o :: rest) E := by
 intro a ha
 refine wpQuiet_step fun K hK => ?_
 rw [if_pos (by simp [Region.wanted, hg])]
 refine ⟨v, fun w hw => ?_, ?_⟩
 ·unfold Oper.quietAt
  rw [hy w hw a ha]
  exact ⟨rfl, rfl⟩
 ·rw [hd]
  exact hK _ (h _ (ha.put hn))
def Jn (ops : Array Oper) (j : Nat) : Option Nat := (ops[j]?).bind (·.dst)
theorem zcy {j t : Nat} {want b : Bool} {a : Act} (ha : Has n a E) (hg : o.guard = some (j, want)) (hj : Jn ops j = some t) (ht : E.get t = some (.bool b)) :
  Region.wanted o (yielded ops a.tmps) = (b == want) := by
 unfold Jn at hj
 simp only [Region.wanted, hg, yielded, hj, Option.bind_some, ha.get t _ ht]
 cases b <;> cases want <;> rfl
theorem V_gy {j t : Nat} {want : Bool} (hg : o.guard = some (j, want)) (hj : Jn ops j = some t) (ht : E.get t = some (.bool want))
  (h : V P n ops Q ({ o with guard := none } :: rest) E w) : V P n ops Q (o :: rest) E w := by
 intro a ha
 have hw := zcy (o := o) ha hg hj ht
 have := h a ha
 unfold wpListIn at this ⊢
 rw [if_pos (by simp [hw])]
 rw [if_pos (by simp [Region.wanted])] at this
 exact this
theorem V_gn {j t : Nat} {want b bad : Bool} (hg : o.guard = some (j, want)) (hj : Jn ops j = some t) (ht : E.get t = some (.bool b)) (hb : b = bad) (hw : (bad == want) = false) (hd : o.dst = some d) (hn : Nat.blt d n.sz = true)
  (h : V P n ops Q rest ((d, undef) :: E) w) : V P n ops Q (o :: rest) E w := by
 intro a ha
 have hw' := zcy (o := o) ha hg hj ht
 unfold wpListIn
 rw [if_neg (by simp [hw', hb, hw]), hd]
 exact ⟨fun _ _ => trivial, h _ (ha.put hn)⟩
theorem V_gu {j t : Nat} {want : Bool} (hg : o.guard = some (j, want)) (hj : Jn ops j = some t) (ht : E.get t = some undef) (hd : o.dst = some d) (hn : Nat.blt d n.sz = true)
  (h : V P n ops Q rest ((d, undef) :: E) w) : V P n ops Q (o :: rest) E w := by
 intro a ha
 have hw' : Region.wanted o (yielded ops a.tmps) = false := by
  unfold Jn at hj
  simp only [Region.wanted, hg, yielded, hj, Option.bind_some, ha.get t _ ht]
  rfl
 unfold wpListIn
 rw [if_neg (by simp [hw']), hd]
 exact ⟨fun _ _ => trivial, h _ (ha.put hn)⟩
theorem zlS {j t : Nat} {want : Bool} (hg : o.guard = some (j, want)) (hj : Jn ops j = some t) (ht : E.get t = some (.bool want))
  (h : VQ P n ops W QA ({ o with guard := none } :: rest) E) : VQ P n ops W QA (o :: rest) E := by
 intro a ha
 have hw := zcy (o := o) ha hg hj ht
 have := h a ha
 unfold wpQuiet at this ⊢
 rw [if_pos (by simp [hw])]
 rw [if_pos (by simp [Region.wanted])] at this
 exact this
theorem zlU {j t : Nat} {want b bad : Bool} (hg : o.guard = some (j, want)) (hj : Jn ops j = some t) (ht : E.get t = some (.bool b)) (hb : b = bad) (hw : (bad == want) = false) (hd : o.dst = some d) (hn : Nat.blt d n.sz = true)
  (h : VQ P n ops W QA rest ((d, undef) :: E)) : VQ P n ops W QA (o :: rest) E := by
 intro a ha
 have hw' := zcy (o := o) ha hg hj ht
 unfold wpQuiet
 rw [if_neg (by simp [hw', hb, hw]), hd]
 exact h _ (ha.put hn)
theorem zdG {j t : Nat} {want : Bool} (hg : o.guard = some (j, want)) (hj : Jn ops j = some t) (ht : E.get t = some undef) (hd : o.dst = some d) (hn : Nat.blt d n.sz = true)
  (h : VQ P n ops W QA rest ((d, undef) :: E)) : VQ P n ops W QA (o :: rest) E := by
 intro a ha
 have hw' : Region.wanted o (yielded ops a.tmps) = false := by
  unfold Jn at hj
  simp only [Region.wanted, hg, yielded, hj, Option.bind_some, ha.get t _ ht]
  rfl
 unfold wpQuiet
 rw [if_neg (by simp [hw']), hd]
 exact h _ (ha.put hn)
theorem V_ge {j t : Nat} {want b : Bool} (hg : o.guard = some (j, want)) (hj : Jn ops j = some t) (ht : E.get t = some (.bool b)) (hb : b = want)
  (h : V P n ops Q ({ o with guard := none } :: rest) E w) : V P n ops Q (o :: rest) E w := by subst hb; exact V_gy hg hj ht h
theorem zlX {j t : Nat} {want b : Bool} (hg : o.guard = some (j, want)) (hj : Jn ops j = some t) (ht : E.get t = some (.bool b)) (hb : b = want)
  (h : VQ P n ops W QA ({ o with guard := none } :: rest) E) : VQ P n ops W QA (o :: rest) E := by subst hb; exact zlS hg hj ht h
theorem zhw {F : Fence} {l1 l2 : List Oper} {M : Act → World → Prop} (h2 : ∀ a w, M a w → wpListIn F 0 P ops Q l2 a w) : ∀ (a : Act) (w : World), wpListIn F 0 P ops (Exit.then M Q) l1 a w → wpListIn F 0 P ops Q (l1 ++ l2) a w := by
 induction l1 with
 | nil => intro a w h; exact h2 a w h
 | cons o l1 ih =>
  intro a w h
  rw [List.cons_append]
  unfold wpListIn at h ⊢
  split
  ·rename_i hw
   rw [if_pos hw] at h
   refine ⟨h.1, ?_⟩
   have h := h.2
   generalize (o.semAt F.round a.eval).run P w = r at h ⊢
   cases r with
   | ok nx w1 =>
    cases nx <;> simp only [Oper.uponIn] at h ⊢
    case value v => exact ih _ _ h
    case skip => exact ih _ _ h
    case defer => exact ih _ _ h
    case enter =>
     refine ⟨h.1, CallsIn.mono h.2 ?_⟩
     intro e w2 he
     cases e with
     | returned v => exact ih _ _ he
     | panicked ch => exact he
     | outgrown => exact he
    case row => exact ⟨h.1, RowsIn.mono h.2 (fun v w2 he => ih _ _ he)⟩
    case round =>
     refine ⟨h.1, RoundIn.mono h.2 ?_⟩
     intro e w2 he
     cases e with
     | returned v => exact ih _ _ he
     | panicked ch => exact he
     | outgrown => exact he
   | halt x w1 => cases x <;> simp only [Oper.uponIn] at h ⊢ <;> exact h
  ·rename_i hw
   rw [if_neg hw] at h
   exact ⟨h.1, ih _ _ h.2⟩
theorem ZP {ι : Type} (k : Nat) (M : ι → Env) (F : ι → World → Prop) (h1 : V P n ops (Exit.then (fun a w' => ∃ i, Has n a (M i) ∧ F i w') Q) (l.take k) E w)
  (h2 : ∀ i w', F i w' → V P n ops Q (l.drop k) (M i) w') : V P n ops Q l E w := by
 intro a ha
 have := zhw (F := FR n.ro) (l1 := l.take k) (l2 := l.drop k) (Q := Q) (M := fun a w' => ∃ i, Has n a (M i) ∧ F i w') (fun a w ⟨i, h, f⟩ => h2 i w f a h) a w (h1 a ha)
 rwa [List.take_append_drop] at this
theorem ziu {l1 l2 : List Oper} : ∀ (a : Act), wpQuiet P ops W (fun a => wpQuiet P ops W QA l2 a) l1 a → wpQuiet P ops W QA (l1 ++ l2) a := by
 induction l1 with
 | nil => intro a h; exact h
 | cons o l1 ih =>
  intro a h
  rw [List.cons_append]
  unfold wpQuiet at h ⊢
  split
  ·rename_i hw
   rw [if_pos hw] at h
   exact Oper.quiet_mono (fun a h => ih a h) h
  ·rename_i hw
   rw [if_neg hw] at h
   exact ih _ h
theorem zbT {QB : Act → Prop} (hq : ∀ a, QA a → QB a) : ∀ (l : List Oper) (a : Act), wpQuiet P ops W QA l a → wpQuiet P ops W QB l a
 | [], a, h => hq a h
 | o :: l, a, h => by
  unfold wpQuiet at h ⊢
  split
  ·rename_i hw
   rw [if_pos hw] at h
   exact Oper.quiet_mono (fun a h => zbT hq l a h) h
  ·rename_i hw
   rw [if_neg hw] at h
   exact zbT hq l _ h
theorem jG {ι : Type} (k : Nat) (M : ι → Env) (F : ι → Prop) (h1 : VQ P n ops W (fun a => ∃ i, Has n a (M i) ∧ F i) (l.take k) E)
  (h2 : ∀ i, F i → VQ P n ops W QA (l.drop k) (M i)) : VQ P n ops W QA l E := by
 intro a ha
 have := ziu (P := P) (ops := ops) (W := W) (QA := QA) (l1 := l.take k) (l2 := l.drop k) a (zbT (fun a ⟨i, h, f⟩ => h2 i f a h) _ _ (h1 a ha))
 rwa [List.take_append_drop] at this
theorem ZK (h : ∀ a, Has n a E → QA a) : VQ P n ops W QA [] E := fun a ha => wpQuiet_nil (h a ha)
theorem V_to {Qx : Exit → Act → World → Prop} {y : Code} (hq : ∀ a w, Qx .normal a w = y.wpIn (FR n.ro) 0 P Q a w) (h : C P n y Q E w) : V P n ops Qx [] E w := fun a ha => wpListIn_nil (by rw [hq]; exact h a ha)
theorem zjZ {Qx : Exit → Act → World → Prop} {y : Code} (hq : ∀ a w, Qx .normal a w = y.wpIn (FR n.ro) 0 P Q a w) (h : C P n y Q E w) : C P n .skip Qx E w := fun a ha => wpIn_skip (by rw [hq]; exact h a ha)
section quietIn
variable {md : Region.Mode}
theorem zha {ro : Option Nat} {a : Act} {K : Act → Prop} {K' : Act → World → Prop} {Q' : Exit → Act → World → Prop} {w : World} (hw : W w) (h : ∀ a w', W w' → K a → K' a w') (hh : o.quiet P a W K) : o.wpIn (FR ro) 0 P a w K' Q' := by
 obtain ⟨v, h1, h2⟩ := hh
 have h3 := h1 w hw
 unfold Oper.quietAt at h3
 refine ⟨fun _ _ => trivial, ?_⟩
 generalize hr : (execOp a.eval o).run P w = r at h3
 cases r with
 | ok n w' =>
  cases n <;> simp only [Oper.quietUpon] at h3
  case value u =>
   obtain ⟨e1, e2⟩ := h3
   rw [Qe hr (fun d h => by cases h), e1, e2]
   exact h _ _ hw h2
  case skip =>
   obtain ⟨e1, e2⟩ := h3
   rw [Qe hr (fun d h => by cases h), e1]
   subst e2
   exact h _ _ hw h2
  case enter f args =>
   obtain ⟨e1, hc⟩ := h3
   rw [Qe hr (fun d h => by cases h), e1]
   exact ⟨zdA _, zga (Calls.mono hc fun e w'' ⟨he, hw''⟩ => by subst he; exact h _ _ hw'' h2)⟩
 | halt x w' => simp only [Oper.quietUpon] at h3
theorem zdQ {ro : Option Nat} {i : Nat} {a : Act} {K : Act → Prop} {K' : Act → World → Prop} {Q' : Exit → Act → World → Prop} {w : World} (hC : W w) (h : ∀ a w', W w' → K a → K' a w') (hh : qOp P ops W i K a) : wpOpIn (FR ro) 0 P ops Q' i K' a w := by
 unfold qOp at hh
 unfold wpOpIn
 split
 ·rename_i ho; simp only [ho] at hh; exact h _ _ hC hh
 ·rename_i o ho
  simp only [ho] at hh
  split
  ·rename_i hw; simp only [hw, if_true] at hh; exact zha hC h hh
  ·rename_i hw; simp only [hw] at hh; exact ⟨fun _ _ => trivial, h _ _ hC hh⟩
theorem zce {ro : Option Nat} {QB : Act → Prop} {Q' : Exit → Act → World → Prop} (hQ : ∀ a w, W w → QB a → Q' .normal a w) : ∀ (fuel : Nat) (listed : Array Bool) (a : Act) (w : World), W w →
  wpAnyQ P md ops W QB fuel listed a → wpAnyIn (FR ro) 0 P md ops Q' fuel listed a w
 | 0, _, _, _, hw, h => ⟨h.1, hQ _ _ hw h.2⟩
 | fuel + 1, _, _, _, hw, h => ⟨fun h0 => hQ _ _ hw (h.1 h0), fun i hi => zdQ hw (fun a' w' hw' => zce hQ fuel _ a' w' hw') (h.2 i hi)⟩
theorem zbg {F : Fence} {Q' : Exit → Act → World → Prop} : ∀ (l : List Oper) (k : Nat) (listed : Array Bool) (a : Act) (w : World), (∀ j, l[j]? = ops[k + j]?) →
  Region.seqB md ops l.length k listed = true → wpListIn F 0 P ops Q' l a w → wpAnyIn F 0 P md ops Q' l.length listed a w
 | [], _, _, _, _, _, hB, h => ⟨by simpa [Region.seqB] using hB, h⟩
 | o :: l, k, listed, a, w, hl, hB, h => by
  have h0 : ops[k]? = some o := by simpa using (hl 0).symm
  simp only [List.length_cons, Region.seqB, Bool.and_eq_true, decide_eq_true_eq] at hB
  refine ⟨fun h1 => (by rw [hB.1] at h1; cases h1), fun i hi => ?_⟩
  rw [hB.1] at hi
  have hik : i = k := by simpa using hi
  subst hik
  have hw : wpOpIn F 0 P ops Q' i (wpListIn F 0 P ops Q' l) a w := by unfold wpOpIn; simp only [h0]; exact h
  exact wpOpIn_mono (fun a' w' h' => zbg l (i + 1) _ a' w' (fun j => by have := hl (j + 1); simpa [Nat.add_assoc, Nat.add_comm 1 j] using this) hB.2 h') hw
end quietIn
theorem ZR {Dw : Prop} {id : Nat} (hm : P.follows .mixedOrders = true) (hB : Region.lexB .any l.toArray = true)
  (h : VQ P n l.toArray (fun w' => Kp Dw w w') (fun a' => ∀ w', Kp Dw w w' → Q .normal a' w') l E) : C P n (.region id l.toArray true) Q E w := by
 intro a ha
 simp only [Region.lexB, Bool.and_eq_true] at hB
 refine wpIn_region_any hm (zce (W := fun w' => Kp Dw w w') (QB := fun a' => ∀ w', Kp Dw w w' → Q .normal a' w') (fun _ w' hw' h => h w' hw') _ _ _ _ (Bel.drew _) ?_)
 have := wpAnyQ_lex (C := fun w' => Kp Dw w w') (md := .any) hB.1 l 0 (Array.replicate l.toArray.size false) a (by simp) (by simpa using hB.2) (h a ha)
 simpa using this
theorem jR {Qx : Exit → Act → World → Prop} {y : Code} (hq : ∀ a w, Qx .normal a w = y.wpIn (FR n.ro) 0 P Q a w) (h : ∀ w', W w' → C P n y Q E w') : VQ P n ops W (fun a' => ∀ w', W w' → Qx .normal a' w') [] E :=
 fun a ha => wpQuiet_nil fun w' hw' => by rw [hq]; exact h w' hw' a ha
theorem zu {ι : Type} {x : Code} (M : ι → Env) (F : ι → World → Prop) (h1 : C P n x (Exit.then (fun a w' => ∃ i, Has n a (M i) ∧ F i w') Q) E w)
  (h2 : ∀ i w', F i w' → ∀ a, Has n a (M i) → Q .normal a w') : C P n x Q E w := by
 intro a ha
 refine wpIn_mono (h1 a ha) ?_
 intro e a' w' hq
 cases e with
 | normal => obtain ⟨i, h, f⟩ := hq; exact h2 i w' f a' h
 | exit id => exact hq
 | goto l => exact hq
 | ret => exact hq
 | panic ch => exact hq
 | outgrown => exact hq
theorem C_at {Qx : Exit → Act → World → Prop} {y : Code} {a : Act} (hq : ∀ a w, Qx .normal a w = y.wpIn (FR n.ro) 0 P Q a w) (h : C P n y Q E w) (ha : Has n a E) : Qx .normal a w := by rw [hq]; exact h a ha
theorem C_of {y : Code} {a : Act} (h : C P n y Q E w) (ha : Has n a E) : y.wpIn (FR n.ro) 0 P Q a w := h a ha
theorem zF {b : Bool} {u : Value} {ρd : Option Nat} {ty : TypeId} {pos : String} {af : Array Edge} {g : Option (Nat × Bool)} {x y z : Operand} (hx : ev E x = some (.bool b)) (hb : b = true) (hy : ev E y = some u) : Y P n E ⟨ρd, .pick x y z, ty, pos, af, g⟩ w u w :=
 fun a ha => by subst hb; simp only [execOp, ha.eval hx]; simp [asBool, ha.eval hy]
theorem zG {b : Bool} {u : Value} {ρd : Option Nat} {ty : TypeId} {pos : String} {af : Array Edge} {g : Option (Nat × Bool)} {x y z : Operand} (hx : ev E x = some (.bool b)) (hb : b = false) (hy : ev E z = some u) : Y P n E ⟨ρd, .pick x y z, ty, pos, af, g⟩ w u w :=
 fun a ha => by subst hb; simp only [execOp, ha.eval hx]; simp [asBool, ha.eval hy]
theorem zL {k N : Nat} (h : decide ((k : Int) < (N : Int)) = true) : k < N := by have := of_decide_eq_true h; omega
theorem zK {k N : Nat} (hle : k ≤ N) (h : decide ((k : Int) < (N : Int)) = false) : k = N := by have := of_decide_eq_false h; omega
theorem zdJ {k N : Nat} (h : k < N) (hN : N ≤ maxLen) : w64 ((k : Int) + 1) = ((k + 1 : Nat) : Int) := by
 simp only [maxLen] at hN
 rw [Zi] <;> omega
def Jq (P : Program) (md : Region.Mode) (ops : Array Oper) (W : World → Prop) (k : Nat) (L : Array Bool → Act → Prop) : Nat → Array Bool → Act → Prop
 | 0, listed, a => L listed a
 | f + 1, listed, a =>
  Region.ready md ops listed ≠ [] ∧ ∀ i ∈ Region.ready md ops listed, i < k ∧ qOp P ops W i (Jq P md ops W k L f (listed.setIfInBounds i true)) a
section quiettail
variable {md : Region.Mode}
theorem zbU {ro : Option Nat} {k g : Nat} {L : Array Bool → Act → Prop} {Q' : Exit → Act → World → Prop} (hL : ∀ listed a w, W w → L listed a → wpAnyIn (FR ro) 0 P md ops Q' g listed a w) :
  ∀ (f : Nat) (listed : Array Bool) (a : Act) (w : World), W w → Jq P md ops W k L f listed a → wpAnyIn (FR ro) 0 P md ops Q' (f + g) listed a w
 | 0, listed, a, w, hw, h => by rw [Nat.zero_add]; exact hL _ _ _ hw h
 | f + 1, listed, a, w, hw, h => by
  rw [show f + 1 + g = (f + g) + 1 by omega]
  exact ⟨fun h0 => absurd h0 h.1, fun i hi => zdQ hw (fun a' w' hw' h' => zbU hL f _ a' w' hw' h') (h.2 i hi).2⟩
theorem zgS {k i : Nat} {oi : Oper} {v : Value} {L : Array Bool → Act → Prop} (hi : ops[i]? = some oi) (hsel : ∀ (j : Nat) (o : Oper) cs b, ops[j]? = some o → o.op ≠ .select cs b)
  (hs : Region.sinkB md ops k = true) (hc : Region.chainB md ops k = true) (hn : k < ops.size) (hin : i < k)
  (hdone : ∀ listed a, L listed a → ∀ j ∈ Region.ready md ops listed, k ≤ j) :
  ∀ (f : Nat) (listed : Array Bool) (a : Act), HeadInv md ops k listed →
   (∀ j oj, ops[j]? = some oj → j ≠ i → listed.getD j true = false → (∀ e ∈ oj.after, Region.binds md e = true → e.on ≠ i) → oi.apart ops oj = true) →
   i ∈ Region.ready md ops listed → YieldsIn P ops W oi v a →
   Jq P md ops W k L f (listed.setIfInBounds i true) (a.put oi.dst v) → Jq P md ops W k L (f + 1) listed a := by
 intro f
 induction f with
 | zero =>
  intro listed a inv _ hr hy H
  have hun := (mem_ready.1 hr).1
  refine ⟨fun h => (by rw [h] at hr; cases hr), fun j hj => ?_⟩
  have hjn : j < k := by
   rcases Nat.lt_or_ge j k with h | h
   ·exact h
   ·exact absurd hj (tail_waits hs hc hn inv _ i rfl hin hun j h)
  refine ⟨hjn, ?_⟩
  by_cases hji : j = i
  ·subst hji; exact hy.qOp hi H
  ·have := hdone _ _ H j (ready_mono hj hji)
   omega
 | succ f ih =>
  intro listed a inv hfree hr hy H
  have hun := (mem_ready.1 hr).1
  refine ⟨fun h => (by rw [h] at hr; cases hr), fun j hj => ?_⟩
  have hjn : j < k := by
   rcases Nat.lt_or_ge j k with h | h
   ·exact h
   ·exact absurd hj (tail_waits hs hc hn inv _ i rfl hin hun j h)
  refine ⟨hjn, ?_⟩
  by_cases hji : j = i
  ·subst hji; exact hy.qOp hi H
  ·have h1 := (H.2 j (ready_mono hj hji)).2
   obtain ⟨hjun, oj, hoj, hall⟩ := mem_ready.1 hj
   have hnot : ∀ e ∈ oj.after, Region.binds md e = true → e.on ≠ i := fun e he hb heq => by
    have h1 := hall e he hb
    rw [heq, getD_both hun] at h1
    cases h1
   have h2 := qOp_put hoj (hfree j oj hoj hji hjun hnot) (fun cs b => hsel i oi cs b hi) (fun cs b => hsel j oj cs b hoj) hy h1
   have hfree' : ∀ k ok, ops[k]? = some ok → k ≠ i → (listed.setIfInBounds j true).getD k true = false →
     (∀ e ∈ ok.after, Region.binds md e = true → e.on ≠ i) → oi.apart ops ok = true := fun k ok hk hki hun hno => by
    refine hfree k ok hk hki ?_ hno
    by_cases hjk : j = k
    ·subst hjk; exact hjun
    ·rw [getD_set_ne true hjk] at hun; exact hun
   refine qOp_mono (fun a' h3 => ih (listed.setIfInBounds j true) a' (inv.set hj hjn) hfree' (ready_mono hr (Ne.symm hji)) h3.1 ?_) h2
   rw [Array.setIfInBounds_comm _ _ hji]
   exact h3.2
theorem zeM {k g : Nat} {Lq : Act → Prop} (hsel : Region.noSelect ops = true) (hs : Region.sinkB md ops k = true) (hc : Region.chainB md ops k = true) (hn : k < ops.size) :
  ∀ (l : List Oper) (j : Nat) (listed : Array Bool) (a : Act), (∀ i, i < l.length → l[i]? = ops[j + i]?) → j + l.length = k → HeadInv md ops k listed →
  Region.lexHead md ops g l.length j listed = true → wpQuiet P ops W Lq l a →
  Jq P md ops W k (fun listed' a' => Region.seqB md ops g k listed' = true ∧ Lq a') l.length listed a
 | [], j, listed, a, _, hk, _, hB, h => by
  have : j = k := by simpa using hk
  subst this
  exact ⟨by simpa [Region.lexHead] using hB, h⟩
 | o :: l, j, listed, a, hl, hk, inv, hB, h => by
  have h0 : ops[j]? = some o := by simpa using (hl 0 (by simp)).symm
  simp only [List.length_cons, Region.lexHead, Bool.and_eq_true] at hB
  obtain ⟨⟨hr, hf⟩, hB'⟩ := hB
  have hkn : j < k := by simp only [List.length_cons] at hk; omega
  have hr' : j ∈ Region.ready md ops listed := by simpa using hr
  have hst : qOp P ops W j (wpQuiet P ops W Lq l) a := by unfold qOp; simp only [h0]; exact h
  obtain ⟨v, hy, hK⟩ := yieldsIn_of_qOp h0 hst
  exact zgS h0 (Region.noSelect_spec hsel) hs hc hn hkn (fun listed' a' hL => seqB_ready hL.1) l.length listed a inv (Region.free_spec h0 hf) hr' hy
   (zeM hsel hs hc hn l (j + 1) _ _ (fun i hi => by have := hl (i + 1) (by simp; omega); simpa [Nat.add_assoc, Nat.add_comm 1 i] using this) (by simp only [List.length_cons] at hk; omega) (inv.set hr' hkn) hB' hK)
end quiettail
theorem ZZ {Dw : Prop} {id : Nat} (k : Nat) (hm : P.follows .mixedOrders = true) (hB : Region.lexTailB .any l.toArray k = true)
  (h : VQ P n l.toArray (fun w' => Kp Dw w w') (fun a' => ∀ w', Kp Dw w w' → wpListIn (FR n.ro) 0 P l.toArray Q (l.drop k) a' w') (l.take k) E) : C P n (.region id l.toArray true) Q E w := by
 intro a ha
 simp only [Region.lexTailB, Bool.and_eq_true, decide_eq_true_eq] at hB
 obtain ⟨⟨⟨⟨hsel, hn⟩, hs⟩, hc⟩, hlex⟩ := hB
 have hn' : k < l.length := by simpa using hn
 have htl : (l.take k).length = k := by simp; omega
 have hdl : (l.drop k).length = l.toArray.size - k := by simp
 have inv0 : HeadInv .any l.toArray k (Array.replicate l.toArray.size false) :=
  ⟨by simp, fun j oj _ hl => (by rw [getD_replicate_false] at hl; cases hl), fun t _ ht => getD_in (by simpa using ht) (getD_replicate_false _ _)⟩
 have H := zeM (md := .any) (g := l.toArray.size - k) hsel hs hc hn (l.take k) 0 _ a (fun j hj => by
  have hj' : j < k := by rw [htl] at hj; exact hj
  simp [hj']) (by simpa using htl) inv0 (by rw [htl]; exact hlex) (h a ha)
 refine wpIn_region_any hm ?_
 have := zbU (ro := n.ro) (Q' := Q) (g := l.toArray.size - k) (fun listed a' w' hw' hL => by
  have := zbg (F := FR n.ro) (md := .any) (Q' := Q) (l.drop k) k listed a' w' (fun j => by simp [List.getElem?_drop]) (by rw [hdl]; exact hL.1) (hL.2 w' hw')
  rwa [hdl] at this) _ _ _ { w with drawn := w.drawn + 1 } (Bel.drew _) H
 rw [htl, show k + (l.toArray.size - k) = l.toArray.size by omega] at this
 exact this
theorem QU {l2 : List Oper} (h : ∀ w', W w' → V P n ops Q l2 E w') : VQ P n ops W (fun a' => ∀ w', W w' → wpListIn (FR n.ro) 0 P ops Q l2 a' w') [] E :=
 fun a ha => wpQuiet_nil fun w' hw' => h w' hw' a ha
theorem nt {b : Bool} (h : b = false) : ¬ b = true := by rw [h]; exact Bool.false_ne_true
variable {ρd : Option Nat} {ty t t2 : TypeId} {pos : String} {af : Array Edge} {g : Option (Nat × Bool)} {x y z : Operand}
theorem zks (hx : ev E x = some v) : Y P n E ⟨ρd, .move x, ty, pos, af, g⟩ w v w := fun a ha => by simp only [execOp, ha.eval hx]; rfl
theorem zhq (hx : ev E x = some v) : Y P n E ⟨ρd, .assign x, ty, pos, af, g⟩ w v w := fun a ha => by simp only [execOp, ha.eval hx]; rfl
theorem Jt {op : BinOp} {k : IntKind} {p q : Int} {u : Value} (h : binOp op t (.int k p) (.int k q) = pure u) (hx : ev E x = some (.int k p)) (hy : ev E y = some (.int k q)) :
  Y P n E ⟨ρd, .binOp op t x y t2, ty, pos, af, g⟩ w u w := fun a ha => by
 have he : (eqGuard op t x y (.int k p) (.int k q)) = pure () := by unfold eqGuard; cases op <;> rfl
 simp only [execOp, ha.eval hx, ha.eval hy, he, h]; rfl
variable {k : IntKind} {p q : Int}
theorem zme (hx : ev E x = some (.int k p)) (hy : ev E y = some (.int k q)) : Y P n E ⟨ρd, .binOp .add t x y t2, ty, pos, af, g⟩ w (.int k (k.wrap (p + q))) w := Jt (by rw [binOp_add]; rfl) hx hy
theorem zmd (hx : ev E x = some (.int k p)) (hy : ev E y = some (.int k q)) : Y P n E ⟨ρd, .binOp .sub t x y t2, ty, pos, af, g⟩ w (.int k (k.wrap (p - q))) w := Jt (by rw [binOp_sub]; rfl) hx hy
theorem zlV (hx : ev E x = some (.int k p)) (hy : ev E y = some (.int k q)) : Y P n E ⟨ρd, .binOp .mul t x y t2, ty, pos, af, g⟩ w (.int k (k.wrap (p * q))) w := Jt (by rw [binOp_mul]; rfl) hx hy
theorem ql (hx : ev E x = some (.int k p)) (hy : ev E y = some (.int k q)) : Y P n E ⟨ρd, .binOp .eql t x y t2, ty, pos, af, g⟩ w (.bool (p == q)) w := Jt (binOp_eql _ _ _ _) hx hy
theorem ZW (hx : ev E x = some (.int k p)) (hy : ev E y = some (.int k q)) : Y P n E ⟨ρd, .binOp .neq t x y t2, ty, pos, af, g⟩ w (.bool (p != q)) w := Jt (binOp_neq _ _ _ _) hx hy
theorem zR (hx : ev E x = some (.int k p)) (hy : ev E y = some (.int k q)) : Y P n E ⟨ρd, .binOp .lss t x y t2, ty, pos, af, g⟩ w (.bool (decide (p < q))) w := Jt (binOp_lss _ _ _ _) hx hy
theorem JA (hx : ev E x = some (.int k p)) (hy : ev E y = some (.int k q)) : Y P n E ⟨ρd, .binOp .leq t x y t2, ty, pos, af, g⟩ w (.bool (decide (p ≤ q))) w := Jt (binOp_leq _ _ _ _) hx hy
theorem qz (hx : ev E x = some (.int k p)) (hy : ev E y = some (.int k q)) : Y P n E ⟨ρd, .binOp .gtr t x y t2, ty, pos, af, g⟩ w (.bool (decide (q < p))) w := Jt (binOp_gtr _ _ _ _) hx hy
theorem Qz (hx : ev E x = some (.int k p)) (hy : ev E y = some (.int k q)) : Y P n E ⟨ρd, .binOp .geq t x y t2, ty, pos, af, g⟩ w (.bool (decide (q ≤ p))) w := Jt (binOp_geq _ _ _ _) hx hy
theorem zlW {r : Int} (hr : quo p q = some r) (hx : ev E x = some (.int .i64 p)) (hy : ev E y = some (.int .i64 q)) : Y P n E ⟨ρd, .binOp .quo t x y t2, ty, pos, af, g⟩ w (.int .i64 r) w := by
 unfold quo at hr
 split at hr
 ·cases hr
 ·rename_i h0
  refine Jt ?_ hx hy
  rw [binOp_quo]
  simp only [Op.intDiv, h0, if_false]
  exact congrArg (fun z => pure (Value.int .i64 z)) (Option.some.inj hr)
theorem zhe {r : Int} (hr : rem p q = some r) (hx : ev E x = some (.int .i64 p)) (hy : ev E y = some (.int .i64 q)) : Y P n E ⟨ρd, .binOp .rem t x y t2, ty, pos, af, g⟩ w (.int .i64 r) w := by
 unfold rem at hr
 split at hr
 ·cases hr
 ·rename_i h0
  refine Jt ?_ hx hy
  rw [binOp_rem]
  simp only [Op.intDiv, h0, if_false]
  exact congrArg (fun z => pure (Value.int .i64 z)) (Option.some.inj hr)
theorem Zs {b : Bool} (hx : ev E x = some (.bool b)) : Y P n E ⟨ρd, .unOp .not t x, ty, pos, af, g⟩ w (.bool (!b)) w := fun a ha => by simp only [execOp, ha.eval hx]; rfl
theorem zD {i : Nat} {vs : Array Value} (hx : ev E x = some (.tuple vs)) (hi : vs[i]? = some v) : Y P n E ⟨ρd, .extract x i, ty, pos, af, g⟩ w v w := fun a ha => by
 simp only [execOp, ha.eval hx, Instr.extract, hi]; rfl
theorem zN (hx : ev E x = some (.int .i64 p)) (hy : ev E y = some (.int .i64 q)) : Y P n E ⟨ρd, .binOp .add t x y t2, ty, pos, af, g⟩ w (.int .i64 (w64 (p + q))) w := zme hx hy
theorem Qw (hx : ev E x = some (.int .i64 p)) (hy : ev E y = some (.int .i64 q)) : Y P n E ⟨ρd, .binOp .sub t x y t2, ty, pos, af, g⟩ w (.int .i64 (w64 (p - q))) w := zmd hx hy
theorem zfi (hx : ev E x = some (.int .i64 p)) (hy : ev E y = some (.int .i64 q)) : Y P n E ⟨ρd, .binOp .mul t x y t2, ty, pos, af, g⟩ w (.int .i64 (w64 (p * q))) w := zlV hx hy
theorem zgH {f : FuncId} {fv : Operand} {args : Array Operand} {ats : Array TypeId} {vs : List Value} {cap fst : Array Value} {a : Act} (ha : Has n a E) (hcall : ∀ (args : Array Value) (w : World), (callFunc f args).run P w = .ok (.enter f args) w)
  (hf : ev E fv = some (.func (.func f) fst cap)) (hv : evs E args.toList = some vs) :
  (execOp a.eval ⟨ρd, .call ⟨.value fv, args, ats⟩, ty, pos, af, g⟩).run P w = .ok (.enter f (fst ++ vs.toArray ++ cap)) w := by
 have h1 : args.map a.eval = vs.toArray := by
  have := ha.evals hv
  apply Array.toList_inj.1
  rw [Array.toList_map, this]
 simp only [execOp, resolve, h1, ha.eval hf, Deferred.ofValue, pure_bind, invoke, hcall]
theorem zdZ {f : FuncId} {fv : Operand} {args : Array Operand} {ats : Array TypeId} {vs : List Value} {cap fst vals : Array Value} {R : Value → World → Prop}
  (hcall : ∀ (args : Array Value) (w : World), (callFunc f args).run P w = .ok (.enter f args) w)
  (hf : ev E fv = some (.func (.func f) fst cap)) (hv : evs E args.toList = some vs) (hvals : fst ++ vs.toArray ++ cap = vals) (hn : Nat.blt d n.sz = true)
  (hc : Ret P f vals w R) (h : ∀ v w', R v w' → V P n ops Q rest ((d, v) :: E) w') : V P n ops Q (⟨some d, .call ⟨.value fv, args, ats⟩, ty, pos, af, none⟩ :: rest) E w := by
 intro a ha
 refine wpListIn_plain rfl fun K hK => ⟨fun _ _ => trivial, ?_⟩
 rw [Qe (zgH ha hcall hf hv) (fun d h => by cases h), Oper.uponIn_enter, hvals]
 refine ⟨zdA _, zga (Calls.mono hc ?_)⟩
 rintro e w' ⟨v, rfl, hR⟩
 exact hK _ _ (h v w' hR _ (ha.put hn))
theorem Qo {f : FuncId} {fv : Operand} {args : Array Operand} {ats : Array TypeId} {vs : List Value} {cap fst vals : Array Value} (v : Value)
  (hcall : ∀ (args : Array Value) (w : World), (callFunc f args).run P w = .ok (.enter f args) w)
  (hf : ev E fv = some (.func (.func f) fst cap)) (hv : evs E args.toList = some vs) (hvals : fst ++ vs.toArray ++ cap = vals) (hn : Nat.blt d n.sz = true)
  (hc : ∀ w, W w → Ret P f vals w fun u w' => u = v ∧ W w') (h : VQ P n ops W QA rest ((d, v) :: E)) : VQ P n ops W QA (⟨some d, .call ⟨.value fv, args, ats⟩, ty, pos, af, none⟩ :: rest) E := by
 intro a ha
 refine wpQuiet_step fun K hK => ?_
 rw [if_pos (by simp [Region.wanted])]
 refine ⟨v, fun w hw => ?_, hK _ (h _ (ha.put hn))⟩
 unfold Oper.quietAt
 rw [zgH ha hcall hf hv, hvals]
 refine ⟨rfl, Calls.mono (hc w hw) ?_⟩
 rintro e w' ⟨u, rfl, rfl, hW⟩
 exact ⟨rfl, hW⟩
end steps
end Go.Gw
