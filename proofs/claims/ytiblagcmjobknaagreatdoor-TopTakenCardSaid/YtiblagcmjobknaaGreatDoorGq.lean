import Derived.Test.YtiblagcmjobknaaGreatDoorGd
namespace Go.Gw
open Go Go.RowKit Go.Pu
variable {Dw : Prop}
set_option linter.unusedSimpArgs false
set_option linter.unusedVariables false
def je (o : Oper) : Bool := match o.op with
  | .load .. | .fieldAddr .. | .move _ | .assign _ | .binOp .. | .unOp .. | .extract .. | .field .. | .indexAddr .. | .index .. | .convert .. | .slice .. | .build .. | .makeFunc .. | .makeInterface .. | .nilCheck _ | .pick .. => true
  | .call ⟨.builtin .len, _, _⟩ | .call ⟨.builtin .min, _, _⟩ | .call ⟨.builtin .max, _, _⟩ => true
  | _ => false
theorem zhr {r : Operand → Value} {o : Oper} {P : Program} {w w' : World} {nx : Next} (ho : je o = true) (h : (execOp r o).run P w = .ok nx w') : ∃ v, nx = .value v := by
  obtain ⟨dst, op, ty, pos, af, g⟩ := o
  unfold je at ho
  cases op with
  | move x => simp only [execOp] at h; simp at h; exact ⟨_, h.1.symm⟩
  | assign x => simp only [execOp] at h; simp at h; exact ⟨_, h.1.symm⟩
  | load t a => exact zV h
  | fieldAddr t a i => exact zV h
  | unOp op t x => exact zV h
  | extract x i => exact zV h
  | field t x i => exact zV h
  | binOp op t x y t2 => exact zV h
  | indexAddr t x i => exact zV h
  | index t x i => exact zV h
  | convert a b x => exact zV h
  | slice t x lo hi mx => exact zV h
  | build t ps => exact zV h
  | makeFunc f a b => exact zV h
  | makeInterface t x => exact zV h
  | pick c x y =>
    simp only [execOp, Sem.run_bind] at h
    cases hs : (asBool (r c)).run P w with
    | ok v w1 => rw [hs] at h; simp [Result.andThen] at h; exact ⟨_, h.1.symm⟩
    | halt x w1 => rw [hs] at h; simp [Result.andThen] at h
  | nilCheck x =>
    simp only [execOp] at h
    split at h
    · simp [runtimePanic] at h
    · simp [runtimePanic] at h
    · simp [runtimePanic] at h
    · split at h
      · simp [runtimePanic] at h
      · simp [Result.andThen] at h
        split at h
        · split at h
          · simp at h; exact ⟨_, h.1.symm⟩
          · cases h
        · cases h
      · simp at h; exact ⟨_, h.1.symm⟩
    · simp at h; exact ⟨_, h.1.symm⟩
  | call c =>
    obtain ⟨cal, args, ats⟩ := c
    cases cal with
    | builtin b =>
      cases b <;> simp only [Bool.false_eq_true] at ho <;> (simp only [execOp, resolve, invoke, builtin, pure_bind] at h; exact zV h)
    | value f => simp at ho
    | invoke x m => simp at ho
  | _ => simp at ho
def JI (o : Oper) : Bool := match o.op with
  | .defer _ => true
  | _ => false
def QF : Exit → Act → World → Prop := fun _ _ _ => False
section
variable {P : Program} {ops : Array Oper} {md : Region.Mode}
def zdD (o : Oper) : Bool := match o.op with
  | .move _ | .assign _ | .extract .. => true
  | _ => false
theorem zlv {r : Operand → Value} {o : Oper} {P : Program} {w w1 : World} {v : Value} (hf : zdD o = true) (h : (execOp r o).run P w = .ok (.value v) w) : (execOp r o).run P w1 = .ok (.value v) w1 := by
  obtain ⟨dst, op, ty, pos, af, g⟩ := o
  unfold zdD at hf
  cases op with
  | move x => simp only [execOp] at h ⊢; simp at h ⊢; exact h
  | assign x => simp only [execOp] at h ⊢; simp at h ⊢; exact h
  | extract x ix =>
    simp only [execOp, Instr.extract] at h ⊢
    cases hu : r x with
    | tuple vs =>
      rw [hu] at h
      cases hv : vs[ix]? with
      | none => simp [hv, stuck, Sem.run] at h
      | some u => simp [hv] at h ⊢; exact h
    | _ => rw [hu] at h; simp [stuck, Sem.run] at h
  | _ => simp at hf
def XA (A : Nat → Prop) (w w' : World) : Prop := w.heap.size ≤ w'.heap.size ∧ ∀ k, k < w.heap.size → A k → w'.heap[k]? = w.heap[k]?
theorem XA.ex {A : Nat → Prop} {w w' : World} (h : XA A w w') : Ex A w A w' := ⟨h.1, fun k hk ha => ⟨ha, h.2 k hk ha⟩⟩
theorem XA.trans {A : Nat → Prop} {w w1 w2 : World} (h : XA A w w1) (k : XA A w1 w2) : XA A w w2 := ⟨Nat.le_trans h.1 k.1, fun b hb ha => (k.2 b (Nat.lt_of_lt_of_le hb h.1) ha).trans (h.2 b hb ha)⟩
theorem XA.kp {A : Nat → Prop} {w w1 : World} (h : Kp Dw w w1) : XA A w w1 := ⟨h.size, fun b hb _ => h.block b hb⟩
theorem XA.tr {B : Nat} {A A1 : Nat → Prop} {w w1 : World} (h : Tr Dw B A w A1 w1) : XA A w w1 := ⟨h.ex.size, fun b hb ha => (h.ex.block b hb ha).2⟩
def cls (Dw : Prop) (A : Nat → Prop) (b : Nat) (w w' : World) : Prop := if b = 0 then Kp Dw w w' else XA A w w'
theorem zay {A : Nat → Prop} {b : Nat} {w : World} : cls Dw A b w w := by unfold cls; split; exact Kp.refl w; exact XA.kp (Kp.refl (Dw := Dw) w)
def sw (Dw : Prop) (A : Nat → Prop) (b : Nat) (w w' : World) : Prop := (b = 2 → Kp Dw w w') ∧ (b = 3 → XA A w w')
def zcc (b k : Nat) : Bool := decide (k ≤ 2) || (b == 1 && k == 3)
theorem zkj {A : Nat → Prop} {b k : Nat} {w w1 w2 : World} (hb : b < 2) (hk : 2 ≤ k) (hc : zcc b k = true) (hs : sw Dw A k w w1) (h : cls Dw A b w1 w2) : cls Dw A b w w2 := by
  simp only [zcc, Bool.or_eq_true, decide_eq_true_eq, Bool.and_eq_true, beq_iff_eq] at hc
  rcases hc with hc | ⟨rfl, rfl⟩
  · have h2 := hs.1 (by omega)
    unfold cls at h ⊢
    split
    · rename_i h0; rw [if_pos h0] at h; exact Kp.trans h2 h
    · rename_i h0; rw [if_neg h0] at h; exact XA.trans (XA.kp h2) h
  · have h2 := hs.2 rfl
    unfold cls at h ⊢
    rw [if_neg (by decide)] at h ⊢
    exact XA.trans h2 h
def chOK (Dw : Prop) (P : Program) (ops : Array Oper) (ro : Option Nat) (A : Nat → Prop) (T : Act → World → Prop) : List (Nat × Nat) → Act → World → Prop
  | [], a, w => T a w
  | (b, i) :: c, a, w => if b < 2 then qOp P ops (fun w' => cls Dw A b w w') i (fun a' => chOK Dw P ops ro A T c a' w) a else wpOpIn (FR ro) 0 P ops QF i (fun a' w' => sw Dw A b w w' ∧ chOK Dw P ops ro A T c a' w') a w
def idxs (c : List (Nat × Nat)) : List Nat := c.map (·.2)
def ChP (md : Region.Mode) (ops : Array Oper) (n : Nat) : List (Nat × Nat) → Prop
  | [] => True
  | (b, i) :: c => i < n ∧ i ∉ idxs c ∧ (∃ o, ops[i]? = some o ∧ (∀ e ∈ o.after, Region.binds md e = true → e.on < n ∧ e.on ≠ i ∧ e.on ∉ idxs c) ∧
      (2 ≤ b → JI o = false ∧ ∀ j ∈ idxs c, ∃ oj, ops[j]? = some oj ∧ ∃ e ∈ oj.after, Region.binds md e = true ∧ (e.on = i ∨ e.on ∈ idxs c)) ∧
      (b < 2 → je o = true ∧ ∃ S : List Nat, (∀ s ∈ S, s ∈ idxs c ∧ ∃ os, ops[s]? = some os ∧ ∃ e ∈ os.after, Region.binds md e = true ∧ (e.on = i ∨ e.on ∈ S)) ∧ ∀ p ∈ c, p.2 ∈ S ∨ ∃ oj, ops[p.2]? = some oj ∧ o.apart ops oj = true ∧ (zcc b p.1 = true ∨ zdD o = true))) ∧ ChP md ops n c
def blkS (md : Region.Mode) (ops : Array Oper) (i : Nat) : List (Nat × Nat) → List Nat → List Nat
  | [], S => S
  | (_, j) :: c, S => blkS md ops i c (match ops[j]? with
    | none => S
    | some oj => bif oj.after.any fun e => Region.binds md e && (e.on == i || S.contains e.on) then j :: S else S)
def chG (md : Region.Mode) (ops : Array Oper) (n : Nat) : List (Nat × Nat) → Bool
  | [] => true
  | (b, i) :: c => decide (i < n) && !(idxs c).contains i && (match ops[i]? with
      | none => false
      | some o => (o.after.all fun e => !Region.binds md e || (decide (e.on < n) && !(e.on == i) && !(idxs c).contains e.on)) &&
        (bif decide (2 ≤ b) then !JI o && (idxs c).all fun j => (match ops[j]? with
            | none => false
            | some oj => oj.after.any fun e => Region.binds md e && (e.on == i || (idxs c).contains e.on))
         else je o && ((blkS md ops i c []).all fun s => (idxs c).contains s && (match ops[s]? with
            | none => false
            | some os => os.after.any fun e => Region.binds md e && (e.on == i || (blkS md ops i c []).contains e.on))) && c.all fun p => (blkS md ops i c []).contains p.2 || (match ops[p.2]? with
            | none => false
            | some oj => o.apart ops oj && (zcc b p.1 || zdD o)))) && chG md ops n c
theorem zhk {n : Nat} : ∀ {c : List (Nat × Nat)}, chG md ops n c = true → ChP md ops n c
  | [], _ => trivial
  | (b, i) :: c, h => by
    unfold chG at h
    simp only [Bool.and_eq_true, decide_eq_true_eq] at h
    obtain ⟨⟨⟨h1, h2⟩, h3⟩, h4⟩ := h
    refine ⟨h1, by simpa using h2, ?_, zhk h4⟩
    cases ho : ops[i]? with
    | none => rw [ho] at h3; cases h3
    | some o =>
      rw [ho] at h3
      simp only [Bool.and_eq_true] at h3
      obtain ⟨h5, h6⟩ := h3
      refine ⟨o, rfl, fun e he hb => ?_, fun hbt => ?_, fun hbf => ?_⟩
      · have := Array.all_eq_true'.1 h5 e he
        simp [hb] at this
        exact ⟨this.1.1, this.1.2, this.2⟩
      · simp only [hbt, decide_true, cond_true, Bool.and_eq_true] at h6
        refine ⟨by simpa using h6.1, fun j hj => ?_⟩
        have := List.all_eq_true.1 h6.2 j hj
        cases hoj : ops[j]? with
        | none => rw [hoj] at this; cases this
        | some oj =>
          rw [hoj] at this
          obtain ⟨q, hq, h7⟩ := Array.any_eq_true.1 this
          simp only [Bool.and_eq_true, Bool.or_eq_true, beq_iff_eq, List.contains_iff_mem] at h7
          exact ⟨oj, rfl, _, Array.getElem_mem hq, h7⟩
      · have hb0 : ¬ 2 ≤ b := by omega
        simp only [hb0, decide_false, cond_false, Bool.and_eq_true] at h6
        refine ⟨h6.1.1, blkS md ops i c [], fun s hs => ?_, fun p hp => ?_⟩
        · have := List.all_eq_true.1 h6.1.2 s hs
          simp only [Bool.and_eq_true, List.contains_iff_mem] at this
          refine ⟨this.1, ?_⟩
          have h8 := this.2
          cases hos : ops[s]? with
          | none => rw [hos] at h8; cases h8
          | some os =>
            rw [hos] at h8
            obtain ⟨q, hq, h7⟩ := Array.any_eq_true.1 h8
            simp only [Bool.and_eq_true, Bool.or_eq_true, beq_iff_eq, List.contains_iff_mem] at h7
            exact ⟨os, rfl, _, Array.getElem_mem hq, h7⟩
        · have := List.all_eq_true.1 h6.2 p hp
          simp only [Bool.or_eq_true, List.contains_iff_mem] at this
          refine this.imp id fun h8 => ?_
          cases hoj : ops[p.2]? with
          | none => rw [hoj] at h8; cases h8
          | some oj =>
            rw [hoj] at h8
            simp only [Bool.and_eq_true, Bool.or_eq_true] at h8
            exact ⟨oj, rfl, h8⟩
theorem zab (p c : List (Nat × Nat)) : idxs (p ++ c) = idxs p ++ idxs c := by simp [idxs]
theorem zfV {n : Nat} {x : Nat × Nat} {post : List (Nat × Nat)} {o : Oper} (ho : ops[x.2]? = some o) : ∀ {pre : List (Nat × Nat)}, (∀ y ∈ pre, y.1 < 2) → (∀ e ∈ o.after, Region.binds md e = true → e.on ∉ idxs (pre ++ x :: post)) → ChP md ops n (pre ++ x :: post) → ChP md ops n (pre ++ post)
  | [], _, _, h => h.2.2.2
  | (b, i) :: pre, hq, hno, h => by
    have hb : b < 2 := hq (b, i) (by simp)
    obtain ⟨h1, h2, ⟨oi, hoi, h3, _, h4⟩, h5⟩ := h
    have hsub : ∀ j, j ∈ idxs (pre ++ post) → j ∈ idxs (pre ++ x :: post) := fun j hj => by
      simp only [zab, List.mem_append] at hj ⊢
      exact hj.imp id fun h => by simp [idxs] at h ⊢; exact .inr h
    refine ⟨h1, fun h => h2 (hsub _ h), ⟨oi, hoi, fun e he hb => ⟨(h3 e he hb).1, (h3 e he hb).2.1, fun h => (h3 e he hb).2.2 (hsub _ h)⟩, (fun h => absurd hb (by omega)), fun hf => ⟨(h4 hf).1, ?_⟩⟩,
      zfV ho (fun y hy => hq y (List.mem_cons_of_mem _ hy)) (fun e he hb hm => hno e he hb (by simp only [List.cons_append, idxs, List.map_cons, List.mem_cons]; exact .inr hm)) h5⟩
    obtain ⟨S, hS, hc⟩ := (h4 hf).2
    have hx : x.2 ∉ S := fun hxs => by
      obtain ⟨_, os, hos, e, he, hb, hon⟩ := hS _ hxs
      have := Option.some.inj (ho.symm.trans hos)
      subst this
      refine hno e he hb ?_
      simp only [List.cons_append, idxs, List.map_cons, List.mem_cons]
      exact hon.imp id fun h => (hS _ h).1
    refine ⟨S, fun s hs => ⟨?_, (hS s hs).2⟩, fun p hp => hc p (by
      rcases List.mem_append.1 hp with h | h
      · exact List.mem_append_left _ h
      · exact List.mem_append_right _ (List.mem_cons_of_mem _ h))⟩
    have h6 := (hS s hs).1
    have hne : s ≠ x.2 := fun e => hx (e ▸ hs)
    have h7 : s ∈ idxs (pre ++ x :: post) := h6
    show s ∈ idxs (pre ++ post)
    rw [zab, List.mem_append] at h7 ⊢
    exact h7.imp id fun h => by
      simp only [idxs, List.map_cons, List.mem_cons] at h ⊢
      exact h.resolve_left hne
theorem zdt {n i b bx : Nat} {c : List (Nat × Nat)} {x : Nat} {ox oi : Oper} (hox : ops[x]? = some ox) (hoi : ops[i]? = some oi) (hic : (b, i) ∈ c) (hno : ∀ e ∈ oi.after, Region.binds md e = true → e.on ∉ x :: idxs c)
    (h : ∃ S : List Nat, (∀ s ∈ S, s ∈ idxs c ∧ ∃ os, ops[s]? = some os ∧ ∃ e ∈ os.after, Region.binds md e = true ∧ (e.on = x ∨ e.on ∈ S)) ∧ ∀ p ∈ c, p.2 ∈ S ∨ ∃ oj, ops[p.2]? = some oj ∧ ox.apart ops oj = true ∧ (zcc bx p.1 = true ∨ zdD ox = true)) : ox.apart ops oi = true ∧ (zcc bx b = true ∨ zdD ox = true) := by
  obtain ⟨S, hS, hc⟩ := h
  rcases hc _ hic with h | ⟨oj, hoj, h⟩
  · obtain ⟨_, os, hos, e, he, hb, hon⟩ := hS _ h
    have := Option.some.inj (hoi.symm.trans hos)
    subst this
    exact absurd (List.mem_cons.2 (hon.imp id fun h => (hS _ h).1)) (hno e he hb)
  · have := Option.some.inj (hoi.symm.trans hoj)
    subst this
    exact h
theorem zeY {o : Oper} {a : Act} {C : World → Prop} {w1 : World} {v : Value} (hp : je o = true) (h : o.quietAt P a C w1 v) : (execOp a.eval o).run P w1 = .ok (.value v) w1 := by
  unfold Oper.quietAt at h
  generalize hrun : (execOp a.eval o).run P w1 = rr at h
  cases rr with
  | ok nx w' =>
    obtain ⟨u, rfl⟩ := zhr hp hrun
    obtain ⟨rfl, rfl⟩ := h
    rfl
  | halt x w' => simp only [Oper.quietUpon] at h
theorem Jy {o : Oper} {a : Act} {C C' : World → Prop} {v : Value} (hp : je o = true) (hk : ∀ w, C' w → C w) (h : YieldsIn P ops C o v a) : YieldsIn P ops C' o v a := by
  rcases h with ⟨hw, h⟩ | h
  · refine .inl ⟨hw, fun w2 hk2 => ?_⟩
    unfold Oper.quietAt
    rw [zeY hp (h w2 (hk w2 hk2))]
    exact ⟨rfl, rfl⟩
  · exact .inr h
theorem zka {o : Oper} (h : JI o = false) : ∀ c, o.op ≠ .defer c := by
  intro c hc
  unfold JI at h
  rw [hc] at h
  cases h
theorem zlc {ro : Option Nat} {Q : Exit → Act → World → Prop} {j : Nat} {K : Act → World → Prop} {a : Act} {w : World} (h : wpOpIn (FR ro) 0 P ops QF j K a w) : wpOpIn (FR ro) 0 P ops Q j K a w := by
  unfold wpOpIn at *
  split
  · rename_i ho; simp only [ho] at h; exact h
  · rename_i o ho
    simp only [ho] at h
    split
    · rename_i hw
      simp only [hw, if_true] at h
      unfold Oper.wpIn at *
      refine ⟨h.1, ?_⟩
      have h := h.2
      generalize (o.semAt (FR ro).round a.eval).run P w = r at *
      cases r with
      | ok x w' =>
        cases x <;> simp only [Oper.uponIn] at h ⊢ <;>
          first
            | exact h
            | exact ⟨h.1, CallsIn.mono h.2 (fun e w'' he => by
                cases e with
                | returned u => exact he
                | panicked c => exact False.elim he
                | outgrown => exact False.elim (by obtain ⟨_, _, h⟩ := he; exact h))⟩
            | exact ⟨h.1, RoundIn.mono h.2 (fun e w'' he => by
                cases e with
                | returned u => exact he
                | panicked c => exact False.elim he
                | outgrown => exact False.elim (by obtain ⟨_, _, h⟩ := he; exact h))⟩
      | halt x w' => cases x <;> simp only [Oper.uponIn] at h ⊢ <;> exact False.elim h
    · rename_i hw; simp only [hw] at h; exact h
theorem zgv {ro : Option Nat} {j : Nat} {oi oj : Oper} {v : Value} (hj : ops[j]? = some oj) (hnd : JI oj = false) (hap : oi.apart ops oj = true)
    (hsi : ∀ cs b, oi.op ≠ .select cs b) (hsj : ∀ cs b, oj.op ≠ .select cs b) {C : World → Prop} {K : Act → World → Prop} {a : Act} {w : World}
    (hy : YieldsIn P ops C oi v a) (h : wpOpIn (FR ro) 0 P ops QF j K (a.put oi.dst v) w) :
    wpOpIn (FR ro) 0 P ops QF j (fun a' w' => YieldsIn P ops C oi v a' ∧ K (a'.put oi.dst v) w') a w := by
  obtain ⟨h1, h2, h3⟩ := Oper.apart_spec hap
  have keep : ∀ (a : Act), YieldsIn P ops C oi v a → ∀ u, YieldsIn P ops C oi v (a.put oj.dst u) := fun a hy u =>
    hy.of_same (execOp_put oi hsi a oj.dst u h3) (wanted_put oi a oj.dst u h3)
  have nd := zka hnd
  unfold wpOpIn at *
  simp only [hj] at *
  rw [wanted_put oj a oi.dst v h1] at h
  split
  · rename_i hw
    simp only [hw, if_true] at h
    unfold Oper.wpIn at *
    refine ⟨fun _ _ => trivial, ?_⟩
    have h := h.2
    rw [Oper.semAt_eq _ _ _ nd, execOp_put oj hsj a oi.dst v h1] at h
    rw [Oper.semAt_eq _ _ _ nd]
    generalize (execOp a.eval oj).run P w = r at *
    cases r with
    | ok x w' =>
      cases x <;> simp only [Oper.uponIn] at h ⊢
      case value u => exact ⟨keep a hy u, by rw [← Act.put_comm a v u h2]; exact h⟩
      case skip => exact ⟨keep a hy _, by rw [← Act.put_comm a v undef h2]; exact h⟩
      case defer d =>
        have hd : YieldsIn P ops C oi v { a with defers := d :: a.defers } := hy.of_same rfl rfl
        refine ⟨keep _ hd _, ?_⟩
        rw [← Act.put_comm _ v undef h2, ← Act.put_defers]
        exact h
      case enter f args =>
        refine ⟨h.1, CallsIn.mono h.2 fun e w'' he => ?_⟩
        cases e with
        | returned u => exact ⟨keep a hy u, by rw [← Act.put_comm a v u h2]; exact he⟩
        | panicked c => exact False.elim he
        | outgrown => exact he
      case row row args => exact ⟨h.1, RowsIn.mono h.2 fun u w'' he => ⟨keep a hy u, by rw [← Act.put_comm a v u h2]; exact he⟩⟩
      case round l f tmps assign body =>
        refine ⟨h.1, RoundIn.mono h.2 fun e w'' he => ?_⟩
        cases e with
        | returned u => exact ⟨keep a hy u, by rw [← Act.put_comm a v u h2]; exact he⟩
        | panicked c => exact False.elim he
        | outgrown => exact he
    | halt x w' =>
      cases x <;> simp only [Oper.uponIn] at h ⊢
      case panic u => exact False.elim h
  · rename_i hw
    simp only [hw] at h
    exact ⟨fun _ _ => trivial, keep a hy _, by rw [← Act.put_comm a v undef h2]; exact h.2⟩
theorem zhE {ro : Option Nat} {A : Nat → Prop} {T : Act → World → Prop} {n i bi : Nat} (hbi : bi < 2) {post : List (Nat × Nat)} {w : World} {oi : Oper} (hsel : Region.noSelect ops = true) (ho : ops[i]? = some oi) (hpi : je oi = true) :
    ∀ (pre : List (Nat × Nat)) (a : Act), ChP md ops n (pre ++ (bi, i) :: post) → (∀ y ∈ pre, y.1 < 2) → (∀ e ∈ oi.after, Region.binds md e = true → e.on ∉ idxs (pre ++ (bi, i) :: post)) → chOK Dw P ops ro A T (pre ++ (bi, i) :: post) a w →
      qOp P ops (fun w' => w' = w) i (fun a' => chOK Dw P ops ro A T (pre ++ post) a' w) a
  | [], a, _, _, _, h => by
    have h1 : qOp P ops (fun w' => cls Dw A bi w w') i (fun a' => chOK Dw P ops ro A T post a' w) a := by
      simp only [List.nil_append, chOK, if_pos hbi] at h
      exact h
    obtain ⟨v, hy, hK⟩ := yieldsIn_of_qOp ho h1
    exact (Jy hpi (fun w' e => by subst e; exact zay) hy).qOp ho hK
  | (b, x) :: pre, a, hg, hq, hno, h => by
    have hb : b < 2 := hq (b, x) (by simp)
    obtain ⟨_, _, ⟨ox, hox, _, _, h4⟩, h5⟩ := hg
    have hap' : ox.apart ops oi = true := (zdt (n := n) (b := bi) (c := pre ++ (bi, i) :: post) hox ho (by simp) (fun e he hb hm => hno e he hb (by simpa [idxs] using hm)) (h4 hb).2).1
    have h6 : qOp P ops (fun w' => cls Dw A b w w') x (fun a' => chOK Dw P ops ro A T (pre ++ (bi, i) :: post) a' w) a := by
      simp only [List.cons_append, chOK, if_pos hb] at h
      exact h
    obtain ⟨v, hy, hK⟩ := yieldsIn_of_qOp hox h6
    have ih := zhE hbi hsel ho hpi pre _ h5 (fun y hy => hq y (List.mem_cons_of_mem _ hy)) (fun e he hb hm => hno e he hb (by simp only [List.cons_append, idxs, List.map_cons, List.mem_cons]; exact .inr hm)) hK
    have hy' : YieldsIn P ops (fun w' => w' = w) ox v a := Jy (h4 hb).1 (fun w' e => by subst e; exact zay) hy
    have h7 := qOp_put ho hap' (fun cs b => Region.noSelect_spec hsel x ox cs b hox) (fun cs b => Region.noSelect_spec hsel i oi cs b ho) hy' ih
    obtain ⟨v2, hy2, hK2⟩ := yieldsIn_of_qOp ho h7
    refine hy2.qOp ho ?_
    obtain ⟨h8, h9, h10⟩ := Oper.apart_spec hap'
    show chOK Dw P ops ro A T ((b, x) :: (pre ++ post)) _ w
    simp only [chOK, if_pos hb]
    refine YieldsIn.qOp hox ?_ hK2.2
    exact hy.of_same (execOp_put ox (fun cs b => Region.noSelect_spec hsel x ox cs b hox) a oi.dst v2 h10) (wanted_put ox a oi.dst v2 h10)
theorem zir {o : Oper} {a : Act} {C C' : World → Prop} {w : World} {v : Value} (hp : je o = true) (hf : zdD o = true) (hC : C w) (h : YieldsIn P ops C o v a) : YieldsIn P ops C' o v a := by
  rcases h with ⟨hw, h⟩ | h
  · refine .inl ⟨hw, fun w2 hk2 => ?_⟩
    unfold Oper.quietAt
    rw [zlv hf (zeY hp (h w hC))]
    exact ⟨rfl, rfl⟩
  · exact .inr h
theorem ziU {ro : Option Nat} {A : Nat → Prop} {T : Act → World → Prop} {n i k : Nat} (hk2 : 2 ≤ k) {post : List (Nat × Nat)} {w : World} {oi : Oper} (hsel : Region.noSelect ops = true) (ho : ops[i]? = some oi) (hnd : JI oi = false) :
    ∀ (pre : List (Nat × Nat)) (a : Act), ChP md ops n (pre ++ (k, i) :: post) → (∀ y ∈ pre, y.1 < 2) → (∀ e ∈ oi.after, Region.binds md e = true → e.on ∉ idxs (pre ++ (k, i) :: post)) → chOK Dw P ops ro A T (pre ++ (k, i) :: post) a w →
      wpOpIn (FR ro) 0 P ops QF i (fun a' w' => sw Dw A k w w' ∧ chOK Dw P ops ro A T (pre ++ post) a' w') a w
  | [], _, _, _, _, h => by
    simp only [List.nil_append, chOK, if_neg (show ¬ k < 2 by omega)] at h
    exact h
  | (b, x) :: pre, a, hg, hq, hno, h => by
    have hb : b < 2 := hq (b, x) (by simp)
    obtain ⟨_, _, ⟨ox, hox, _, _, h4⟩, h5⟩ := hg
    obtain ⟨hap', hwild⟩ := zdt (n := n) (b := k) (c := pre ++ (k, i) :: post) hox ho (by simp) (fun e he hb hm => hno e he hb (by simpa [idxs] using hm)) (h4 hb).2
    have h6 : qOp P ops (fun w' => cls Dw A b w w') x (fun a' => chOK Dw P ops ro A T (pre ++ (k, i) :: post) a' w) a := by
      simp only [List.cons_append, chOK, if_pos hb] at h
      exact h
    obtain ⟨v, hy, hK⟩ := yieldsIn_of_qOp hox h6
    have ih := ziU hk2 hsel ho hnd pre _ h5 (fun y hy => hq y (List.mem_cons_of_mem _ hy)) (fun e he hb hm => hno e he hb (by simp only [List.cons_append, idxs, List.map_cons, List.mem_cons]; exact .inr hm)) hK
    have h7 := zgv ho hnd hap' (fun cs b => Region.noSelect_spec hsel x ox cs b hox) (fun cs b => Region.noSelect_spec hsel i oi cs b ho) hy ih
    refine wpOpIn_mono (fun a' w' ⟨q1, q2, q3⟩ => ⟨q2, ?_⟩) h7
    show chOK Dw P ops ro A T ((b, x) :: (pre ++ post)) a' w'
    simp only [chOK, if_pos hb]
    refine YieldsIn.qOp hox ?_ q3
    rcases hwild with hc | hf
    · exact Jy (h4 hb).1 (fun w2 h2 => zkj hb hk2 hc q2 h2) q1
    · exact zir (h4 hb).1 hf zay q1
theorem zia {n i : Nat} : ∀ (c : List (Nat × Nat)), ChP md ops n c → i ∈ idxs c → (∃ o, ops[i]? = some o ∧ ∀ e ∈ o.after, Region.binds md e = true → e.on ∉ idxs c) →
    ∃ pre b post, c = pre ++ (b, i) :: post ∧ ∀ y ∈ pre, y.1 < 2
  | [], _, hi, _ => by simp [idxs] at hi
  | (b, x) :: c, hg, hi, ⟨o, ho, hdep⟩ => by
    by_cases hx : x = i
    · subst hx
      exact ⟨[], b, c, rfl, by simp⟩
    · have hi' : i ∈ idxs c := by
        simp only [idxs, List.map_cons, List.mem_cons] at hi
        exact hi.resolve_left fun e => hx e.symm
      obtain ⟨_, _, ⟨ox, hox, _, h3, _⟩, h5⟩ := hg
      have hb : b < 2 := by
        rcases Nat.lt_or_ge b 2 with h | h
        · exact h
        · obtain ⟨oj, hoj, e, he, hbd, hon⟩ := (h3 h).2 i hi'
          have := Option.some.inj (ho.symm.trans hoj)
          subst this
          exact absurd (by simp only [idxs, List.map_cons, List.mem_cons]; exact hon) (hdep e he hbd)
      obtain ⟨pre, b', post, rfl, hq⟩ := zia c h5 hi' ⟨o, ho, fun e he hbd hm => hdep e he hbd (by simp only [idxs, List.map_cons, List.mem_cons]; exact .inr hm)⟩
      exact ⟨(b, x) :: pre, b', post, rfl, fun y hy => by
        rcases List.mem_cons.1 hy with rfl | hy
        · exact hb
        · exact hq y hy⟩
theorem zkt {ro : Option Nat} {Q : Exit → Act → World → Prop} {i : Nat} {oi : Oper} {w : World} {K : Act → Prop} {K' : Act → World → Prop} {a : Act} (ho : ops[i]? = some oi) (hp : je oi = true) (h : qOp P ops (fun w' => w' = w) i K a) (hK : ∀ a', K a' → K' a' w) : wpOpIn (FR ro) 0 P ops Q i K' a w := by
  unfold qOp at h
  unfold wpOpIn
  simp only [ho] at h ⊢
  split
  · rename_i hw
    rw [if_pos hw] at h
    obtain ⟨v, h1, h2⟩ := h
    have h3 := zeY hp (h1 w rfl)
    refine ⟨fun _ _ => trivial, ?_⟩
    rw [Qe h3 (fun d h => by cases h), Oper.uponIn_value]
    exact hK _ h2
  · rename_i hw
    rw [if_neg hw] at h
    exact ⟨fun _ _ => trivial, hK _ h⟩
theorem zfO {ro : Option Nat} {A : Nat → Prop} {n : Nat} {Q : Exit → Act → World → Prop} {T : Act → World → Prop} (hsel : Region.noSelect ops = true) (hnl : n ≤ ops.size) (hs : n < ops.size → Region.sinkB md ops n = true ∧ Region.chainB md ops n = true)
    (hseqN : ∀ listed : Array Bool, listed.size = ops.size → (∀ i, i < n → listed.getD i false = true) → (∀ i, n ≤ i → listed.getD i false = false) → Region.seqB md ops (ops.size - n) n listed = true)
    (hT : ∀ a w, T a w → wpListIn (FR ro) 0 P ops Q (ops.toList.drop n) a w) :
    ∀ (m : Nat) (c : List (Nat × Nat)) (listed : Array Bool) (a : Act) (w : World), c.length = m → ChP md ops n c → (∀ i, i < n → (listed.getD i false = false ↔ i ∈ idxs c)) → HeadInv md ops n listed →
      chOK Dw P ops ro A T c a w → wpAnyIn (FR ro) 0 P md ops Q (m + (ops.size - n)) listed a w := by
  intro m
  induction m with
  | zero =>
    intro c listed a w hl hg hin hinv h
    have hc0 : c = [] := List.eq_nil_of_length_eq_zero hl
    subst hc0
    have hall : ∀ i, i < n → listed.getD i false = true := fun i hi => by
      cases hv : listed.getD i false with
      | true => rfl
      | false => have := (hin i hi).1 hv; simp [idxs] at this
    have hseq := hseqN listed hinv.size hall (fun i hi => by
      rcases Nat.lt_or_ge i ops.size with h | h
      · exact getD_both (hinv.tail i hi h)
      · simp [Array.getElem?_eq_none (show listed.size ≤ i by rw [hinv.size]; exact h)])
    rw [Nat.zero_add]
    have := zbg (F := FR ro) (md := md) (Q' := Q) (ops.toList.drop n) n listed a w (fun j => by simp [List.getElem?_drop]) (by simpa using hseq) (hT a w h)
    simpa using this
  | succ m ih =>
    intro c listed a w hl hg hin hinv h
    have unl : ∀ i, i ∈ idxs c → i < n → listed.getD i true = false := fun i hi hlt => getD_in (by rw [hinv.size]; omega) ((hin i hlt).2 hi)
    have hdone : ∀ i, i < n → i ∉ idxs c → listed.getD i false = true := fun i hi hn => by
      cases hv : listed.getD i false with
      | true => rfl
      | false => exact absurd ((hin i hi).1 hv) hn
    obtain ⟨i0, hi0, hr0⟩ : ∃ i0, i0 < n ∧ i0 ∈ idxs c ∧ i0 ∈ Region.ready md ops listed := by
      cases c with
      | nil => simp at hl
      | cons p c =>
        obtain ⟨b, i⟩ := p
        obtain ⟨h1, h2, ⟨o, ho, h3, _⟩, _⟩ := hg
        refine ⟨i, h1, by simp [idxs], mem_ready.2 ⟨unl i (by simp [idxs]) h1, o, ho, fun e he hb => ?_⟩⟩
        obtain ⟨q1, q2, q3⟩ := h3 e he hb
        refine hdone _ q1 ?_
        simp only [idxs, List.map_cons, List.mem_cons, not_or]
        exact ⟨q2, q3⟩
    rw [show m + 1 + (ops.size - n) = (m + (ops.size - n)) + 1 by omega]
    refine ⟨(by intro h; rw [h] at hr0; exact absurd hr0.2 (by simp)), fun i hi => ?_⟩
    have hin' : i < n := by
      rcases Nat.lt_or_ge i n with h' | h'
      · exact h'
      · obtain ⟨_, o, ho, _⟩ := mem_ready.1 hi
        have hlt : i < ops.size := (Array.getElem?_eq_some_iff.1 ho).1
        obtain ⟨q1, q2⟩ := hs (by omega)
        exact absurd hi (tail_waits q1 q2 (by omega) hinv _ i0 rfl hi0 (unl i0 hr0.1 hi0) i h')
    obtain ⟨hui, o, ho, hdep⟩ := mem_ready.1 hi
    have hic : i ∈ idxs c := (hin i hin').1 (getD_both hui)
    have hno : ∀ e ∈ o.after, Region.binds md e = true → e.on ∉ idxs c := fun e he hb hm => by
      have h1 := hdep e he hb
      have hlt : e.on < n := by
        rcases Nat.lt_or_ge e.on n with h' | h'
        · exact h'
        · rcases Nat.lt_or_ge e.on ops.size with h2 | h2
          · rw [getD_both (hinv.tail _ h' h2)] at h1; cases h1
          · simp [Array.getElem?_eq_none (show listed.size ≤ e.on by rw [hinv.size]; exact h2)] at h1
      rw [(hin _ hlt).2 hm] at h1
      cases h1
    obtain ⟨pre, b, post, rfl, hq⟩ := zia c hg hic ⟨o, ho, hno⟩
    have hg' := zfV (x := (b, i)) ho hq hno hg
    have hnd : i ∉ idxs (pre ++ post) := by
      have key : ∀ (pre : List (Nat × Nat)), ChP md ops n (pre ++ (b, i) :: post) → i ∉ idxs (pre ++ post) := by
        intro pre
        induction pre with
        | nil => exact fun h => h.2.1
        | cons p pre ihp =>
          obtain ⟨b', x⟩ := p
          intro h
          have h1 := ihp h.2.2.2
          have h2 := h.2.1
          simp only [List.cons_append, idxs, List.map_cons, List.mem_cons, not_or]
          refine ⟨fun e => h2 (by subst e; simp [idxs]), h1⟩
      exact key pre hg
    have hlen : (pre ++ post).length = m := by simp at hl ⊢; omega
    have hin2 : ∀ j, j < n → ((listed.setIfInBounds i true).getD j false = false ↔ j ∈ idxs (pre ++ post)) := fun j hj => by
      by_cases hji : j = i
      · subst hji
        have hlt2 : j < listed.size := by rw [hinv.size]; omega
        simp only [hnd, iff_false]
        simp [hlt2]
      · rw [getD_set_ne false (Ne.symm hji), hin j hj]
        simp only [zab, List.mem_append]
        simp [idxs, hji]
    have next : ∀ a' w', chOK Dw P ops ro A T (pre ++ post) a' w' → wpAnyIn (FR ro) 0 P md ops Q (m + (ops.size - n)) (listed.setIfInBounds i true) a' w' :=
      fun a' w' h' => ih (pre ++ post) _ a' w' hlen hg' hin2 (hinv.set hi hin') h'
    have hgi : ∀ (pre : List (Nat × Nat)), ChP md ops n (pre ++ (b, i) :: post) → (2 ≤ b → JI o = false) ∧ (b < 2 → je o = true) := by
      intro pre
      induction pre with
      | nil =>
        rintro ⟨_, _, ⟨o', ho', _, q1, q2⟩, _⟩
        have := Option.some.inj (ho.symm.trans ho')
        subst this
        exact ⟨fun h => (q1 h).1, fun h => (q2 h).1⟩
      | cons p pre ihp => exact fun h => ihp h.2.2.2
    rcases Nat.lt_or_ge b 2 with hb | hb
    · exact zkt ho ((hgi pre hg).2 hb) (zhE hb hsel ho ((hgi pre hg).2 hb) pre a hg hq hno h) fun a' h' => next a' w h'
    · exact wpOpIn_mono (fun a' w' ⟨_, h'⟩ => next a' w' h') (zlc (ziU hb hsel ho ((hgi pre hg).1 hb) pre a hg hq hno h))
def chB (md : Region.Mode) (ops : Array Oper) (n : Nat) (c : List (Nat × Nat)) : Bool :=
  Region.noSelect ops && decide (n ≤ ops.size) && decide (c.length = n) && (decide (ops.size ≤ n) || (Region.sinkB md ops n && Region.chainB md ops n)) && chG md ops n c && ((List.range n).all fun i => (idxs c).contains i) &&
    Region.seqB md ops (ops.size - n) n ((List.range ops.size).map fun i => decide (i < n)).toArray
def CH (Dw : Prop) (P : Program) (nn : Fr) (ops : Array Oper) (A : Nat → Prop) (T : Act → World → Prop) (c : List (Nat × Nat)) (E : Env) (w : World) : Prop := ∀ a, Has nn a E → chOK Dw P ops nn.ro A T c a w
end
section
variable {P : Program} {nn : Fr} {Q : Exit → Act → World → Prop} {A : Nat → Prop} {T : Act → World → Prop} {E : Env} {w w0 : World} {l tl r : List Oper} {o : Oper} {c : List (Nat × Nat)} {i n id : Nat}
theorem qX (A : Nat → Prop) (n : Nat) (c : List (Nat × Nat)) (hm : P.follows .mixedOrders = true) (hB : chB .any l.toArray n c = true)
    (h : ∀ w1, Kp Dw w w1 → CH Dw P nn l.toArray A (fun a' w' => wpListIn (FR nn.ro) 0 P l.toArray Q (l.drop n) a' w') c E w1) : C P nn (.region id l.toArray true) Q E w := by
  intro a ha
  refine wpIn_region_any hm ?_
  simp only [chB, Bool.and_eq_true, decide_eq_true_eq, Bool.or_eq_true] at hB
  obtain ⟨⟨⟨⟨⟨⟨h1, h2⟩, h3⟩, h4⟩, h5⟩, h6⟩, h7⟩ := hB
  have key := zfO (ro := nn.ro) (A := A) (md := .any) (P := P) (ops := l.toArray) (Q := Q) (n := n) (T := fun a' w' => wpListIn (FR nn.ro) 0 P l.toArray Q (l.drop n) a' w') h1 h2 (fun hlt => h4.resolve_left (by omega)) (fun listed hsz q1 q2 => by
    have e : listed = ((List.range l.toArray.size).map fun i => decide (i < n)).toArray := by
      apply Array.ext
      · rw [hsz]; simp
      · intro i hi1 hi2
        have e1 : listed.getD i false = listed[i] := by simp [hi1]
        rw [← e1]
        rcases Nat.lt_or_ge i n with hin | hin
        · rw [q1 i hin]; simp [hin]
        · rw [q2 i hin]; simp; omega
    rw [e]
    exact h7) (fun _ _ h => by simpa using h) c.length c (Array.replicate l.toArray.size false) a { w with drawn := w.drawn + 1 } rfl (zhk h5) (fun i hi => by
      rw [getD_replicate_false]
      have := List.all_eq_true.1 h6 i (List.mem_range.2 hi)
      simpa using this)
    ⟨by simp, fun j oj _ hl => (by rw [getD_replicate_false] at hl; cases hl), fun t _ ht => getD_in (by simpa using ht) (getD_replicate_false _ _)⟩
    (h _ (Kp.drew (Dw := Dw) _) a ha)
  rw [h3, show n + (l.toArray.size - n) = l.toArray.size by omega] at key
  exact key
theorem zaZ {o : Oper} {r : List Oper} (hd : l.drop i = o :: r) : l.toArray[i]? = some o := by
  have := congrArg (fun l => l[0]?) hd
  simpa using this
theorem qF (hd : l.drop i = o :: r) (h : VQ P nn l.toArray (fun w' => Kp Dw w w') (fun a' => chOK Dw P l.toArray nn.ro A T c a' w) [o] E) : CH Dw P nn l.toArray A T ((0, i) :: c) E w := by
  intro a ha
  simp only [chOK, if_pos (show 0 < 2 by decide)]
  show qOp P l.toArray (fun w' => Kp Dw w w') i _ a
  unfold qOp
  simp only [zaZ hd]
  exact h a ha
theorem zI (hd : l.drop i = o :: r) (h : VQ P nn l.toArray (fun w' => XA A w w') (fun a' => chOK Dw P l.toArray nn.ro A T c a' w) [o] E) : CH Dw P nn l.toArray A T ((1, i) :: c) E w := by
  intro a ha
  simp only [chOK, if_pos (show 1 < 2 by decide)]
  show qOp P l.toArray (fun w' => XA A w w') i _ a
  unfold qOp
  simp only [zaZ hd]
  exact h a ha
theorem zB {W : World → Prop} (h : CH Dw P nn l.toArray A T c E w) : VQ P nn l.toArray W (fun a' => chOK Dw P l.toArray nn.ro A T c a' w) [] E := fun a ha => wpQuiet_nil (h a ha)
theorem qw (hd : l.drop i = o :: r) {k : Nat} (h : V P nn l.toArray (Exit.then (fun a' w' => sw Dw A (k + 2) w w' ∧ chOK Dw P l.toArray nn.ro A T c a' w') QF) [o] E w) : CH Dw P nn l.toArray A T ((k + 2, i) :: c) E w := by
  intro a ha
  simp only [chOK, if_neg (show ¬ k + 2 < 2 by omega)]
  show wpOpIn _ 0 P l.toArray QF i _ a w
  have h1 := h a ha
  unfold wpListIn at h1
  unfold wpOpIn
  simp only [zaZ hd]
  split
  · rename_i hw
    rw [if_pos hw] at h1
    refine ⟨h1.1, ?_⟩
    have h1 := h1.2
    generalize (o.semAt (FR nn.ro).round a.eval).run P w = r at *
    cases r with
    | ok x w' =>
      cases x <;> simp only [Oper.uponIn] at h1 ⊢ <;>
        first
          | exact h1
          | exact ⟨h1.1, CallsIn.mono h1.2 (fun e w'' he => by
              cases e with
              | returned u => exact he
              | panicked c => exact False.elim he
              | outgrown => exact False.elim (by obtain ⟨_, _, h⟩ := he; exact h))⟩
          | exact ⟨h1.1, RoundIn.mono h1.2 (fun e w'' he => by
              cases e with
              | returned u => exact he
              | panicked c => exact False.elim he
              | outgrown => exact False.elim (by obtain ⟨_, _, h⟩ := he; exact h))⟩
    | halt x w' => cases x <;> simp only [Oper.uponIn] at h1 ⊢ <;> exact False.elim h1
  · rename_i hw
    rw [if_neg hw] at h1
    exact h1
theorem V_CH (hk : Kp Dw w0 w) (h : CH Dw P nn l.toArray A T c E w) : V P nn l.toArray (Exit.then (fun a' w' => sw Dw A (0 + 2) w0 w' ∧ chOK Dw P l.toArray nn.ro A T c a' w') QF) [] E w := fun a ha => wpListIn_nil ⟨⟨fun _ => hk, fun h => absurd h (by decide)⟩, h a ha⟩
theorem zeC (hk : XA A w0 w) (h : CH Dw P nn l.toArray A T c E w) : V P nn l.toArray (Exit.then (fun a' w' => sw Dw A (1 + 2) w0 w' ∧ chOK Dw P l.toArray nn.ro A T c a' w') QF) [] E w := fun a ha => wpListIn_nil ⟨⟨fun h => absurd h (by decide), fun _ => hk⟩, h a ha⟩
theorem zaE (h : CH Dw P nn l.toArray A T c E w) : V P nn l.toArray (Exit.then (fun a' w' => sw Dw A (2 + 2) w0 w' ∧ chOK Dw P l.toArray nn.ro A T c a' w') QF) [] E w := fun a ha => wpListIn_nil ⟨⟨fun h => absurd h (by decide), fun h => absurd h (by decide)⟩, h a ha⟩
theorem jC (h : V P nn l.toArray Q tl E w) : CH Dw P nn l.toArray A (fun a' w' => wpListIn (FR nn.ro) 0 P l.toArray Q tl a' w') [] E w := h
end
section
variable {B : Nat} {A A1 : Nat → Prop} {w w1 : World} {L M : List Ob}
theorem Hp.join (hH : Hp B A w L) (hB : B ≤ w.heap.size) (t : Tr Dw w.heap.size A w A1 w1) (h : Hp w.heap.size A1 w1 M) : Hp B A1 w1 (M ++ L) := by
  obtain ⟨U, hs, hu⟩ := hH
  obtain ⟨U2, hs2, hu2⟩ := h
  refine ⟨U2 ++ U, Sp.append.2 ⟨U2, U, rfl, fun b hb hb' => ?_, hs2, hs.keep t.ex fun b hb => t.below.block b (hu b hb).2.1⟩, fun b hb => ?_⟩
  · have := (hu2 b hb).1
    have := (hu b hb').2.1
    omega
  · rcases List.mem_append.1 hb with h1 | h1
    · exact ⟨Nat.le_trans hB (hu2 b h1).1, (hu2 b h1).2⟩
    · refine ⟨(hu b h1).1, Nat.lt_of_lt_of_le (hu b h1).2.1 t.ex.size, fun h2 => ?_⟩
      rcases t.sub b h2 with h3 | h3
      · exact (hu b h1).2.2 h3
      · have := (hu b h1).2.1; omega
end
end Go.Gw
