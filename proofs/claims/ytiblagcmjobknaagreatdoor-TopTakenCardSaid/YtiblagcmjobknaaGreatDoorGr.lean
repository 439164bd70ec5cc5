import Derived.Test.YtiblagcmjobknaaGreatDoorGh
import Derived.RangeFuncLeaves
namespace Go.Gw
open Go Go.RowKit Go.Pu
variable {Dw : Prop}
set_option linter.unusedSimpArgs false
set_option linter.unusedVariables false
theorem Kp.tr {B : Nat} {A : Nat → Prop} {w w1 : World} (hk : Kp Dw w w1) (hA : ∀ b, w.heap.size ≤ b → A b) (hB : B ≤ w.heap.size) : Tr Dw B A w A w1 := (Mv.kp hk hA).tr hB
theorem Tr.kp {A A1 : Nat → Prop} {w w1 : World} (h : Tr Dw w.heap.size A w A1 w1) : Kp Dw w w1 := h.below
def CallV (P : Program) (fv : Value) (args : List Value) (w : World) (R : Value → World → Prop) : Prop :=
 ∀ (ro : Option Nat) (a : Act) (d : Option Tmp) (ty : TypeId) (pos : String) (af : Array Edge) (x : Operand) (xs : Array Operand) (ats : Array TypeId) (K : Act → World → Prop) (Q : Exit → Act → World → Prop),
  a.eval x = fv → xs.toList.map a.eval = args → (∀ v w', R v w' → K (a.put d v) w') → Oper.wpIn (FR ro) 0 P ⟨d, .call ⟨.value x, xs, ats⟩, ty, pos, af, none⟩ a w K Q
theorem zlm {ro ro' : Option Nat} {n m : Nat} {P : Program} {l : Nat} {f : FuncId} {tmps : Array Value} {assign body : Code} {w : World} {R : Ending → World → Prop} (h : RoundIn (FR ro) n P l f tmps assign body w R) : RoundIn (FR ro') m P l f tmps assign body w R :=
 ⟨trivial, fun c cs _ => h.2 c cs (fun d hd => by cases hd)⟩
theorem CallV.yield {P : Program} {l : Nat} {rc : Loop} {args : List Value} {w : World} {R : Value → World → Prop} (hl : w.heap[l]? = some (.loop rc)) (hs : args.toArray.size = rc.params.size)
  (h : RoundIn (FR none) 0 P l rc.fn ((rc.params.zip args.toArray).foldl (fun tmps (t, a) => tmps.setIfInBounds t a) rc.tmps) rc.assign rc.body w fun e w' => ∃ v, e = .returned v ∧ R v w') :
  CallV P (.func (.yield l) #[] #[]) args w R := by
 intro ro a d ty pos af x xs ats K Q hx hxs hK
 refine ⟨fun _ _ => trivial, ?_⟩
 have h1 : xs.map a.eval = args.toArray := by apply Array.toList_inj.1; rw [Array.toList_map, hxs]
 have hrun : (execOp a.eval ⟨d, .call ⟨.value x, xs, ats⟩, ty, pos, af, none⟩).run P w = .ok (.round l rc.fn ((rc.params.zip args.toArray).foldl (fun tmps (t, a) => tmps.setIfInBounds t a) rc.tmps) rc.assign rc.body) w := by
  have hy := run_yield (P := P) hl hs
  simp only [execOp, resolve, h1, hx, Deferred.ofValue, pure_bind, invoke]
  simpa using hy
 rw [Qe hrun (fun d h => by cases h), Oper.uponIn_round]
 refine ⟨zdA _, zlm (RoundIn.mono h ?_)⟩
 rintro e w' ⟨v, rfl, hR⟩
 exact hK v w' hR
section steps
variable {P : Program} {n : Fr} {ops : Array Oper} {Q : Exit → Act → World → Prop} {E : Env} {w : World} {rest : List Oper} {d : Nat} {ty : TypeId} {pos : String} {af : Array Edge}
theorem zfR {fv : Operand} {args : Array Operand} {ats : Array TypeId} {v0 : Value} {vs : List Value} {R : Value → World → Prop} (hf : ev E fv = some v0) (hv : evs E args.toList = some vs) (hn : Nat.blt d n.sz = true)
  (hc : CallV P v0 vs w R) (h : ∀ v w', R v w' → V P n ops Q rest ((d, v) :: E) w') : V P n ops Q (⟨some d, .call ⟨.value fv, args, ats⟩, ty, pos, af, none⟩ :: rest) E w := by
 intro a ha
 refine wpListIn_plain rfl fun K hK => ?_
 exact hc n.ro a (some d) ty pos af fv args ats K Q (ha.eval hf) (ha.evals hv) fun v w' hR => hK _ _ (h v w' hR _ (ha.put hn))
end steps
def zfr (P : Program) (fn : Func) (R : Value → World → Prop) : Exit → Act → World → Prop := bodyPostM (FR none) 0 P fn fun e w' => ∃ v, e = .returned v ∧ R v w'
theorem zfI {P : Program} {f : FuncId} {fn : Func} {c : Code} {args : Array Value} {w : World} {R : Value → World → Prop} {n : Nat}
  (hf : P.funcs[f]? = some fn) (hb : fn.body = some c) (hn : fn.ntmps = n) (hle : Nat.ble args.size n = true)
  (h : C P ⟨n, [], none⟩ c (zfr P fn R) (zeG 0 args.toList) w) : Ret P f args w R := by
 refine zkI (ro := none) (n := 0) (callsIn_of_wp_marks hf hb trivial (h _ ⟨?_, rfl, fun t v hg => ?_⟩))
 ·simp only [Array.size_append, Array.size_replicate, hn]
  have := Nat.le_of_ble_eq_true hle
  omega
 ·obtain ⟨_, h2⟩ := zgr _ _ _ _ hg
  simp only [Nat.sub_zero, Array.getElem?_toList] at h2
  have hlt : t < args.size := by
   rcases Nat.lt_or_ge t args.size with h' | h'
   ·exact h'
   ·rw [Array.getElem?_eq_none h'] at h2; cases h2
  simp only []
  rw [Array.getElem?_append_left hlt]
  exact h2
def Res (P : Program) (fn : Func) (E : Env) (n : Fr) (w : World) (v : Value) : Prop := ∀ a, Has n a E → (results fn a.tmps).run P w = .ok v w
section ret
variable {P : Program} {n : Fr} {fn : Func} {E : Env} {w : World} {R : Value → World → Prop} {v x y : Value} {t u s : Nat}
theorem Res.zero (hr : fn.results = #[]) : Res P fn E n w (.tuple #[]) := fun a _ => by simp [results, hr]
theorem Res.one (hr : fn.results = #[.tmp t]) (ht : E.get t = some v) : Res P fn E n w v := fun a h => by rw [results_tmp hr, h.getD ht]
theorem Res.two (hr : fn.results = #[.tmp t, .tmp u]) (ht : E.get t = some v) (hu : E.get u = some x) : Res P fn E n w (.tuple #[v, x]) := fun a h => by rw [results_tmp2 hr, h.getD ht, h.getD hu]
theorem Res.three (hr : fn.results = #[.tmp t, .tmp u, .tmp s]) (ht : E.get t = some v) (hu : E.get u = some x) (hs : E.get s = some y) : Res P fn E n w (.tuple #[v, x, y]) := fun a h => by
 rw [show (results fn a.tmps).run P w = .ok (.tuple #[a.tmps.getD t undef, a.tmps.getD u undef, a.tmps.getD s undef]) w by simp [results, hr], h.getD ht, h.getD hu, h.getD hs]
theorem retM (hds : n.ds = []) (hr : Res P fn E n w v) (hR : R v w) : ∀ a, Has n a E → zfr P fn R .ret a w := fun a h => by
 show LeavesInM (FR none) 0 P fn a.tmps _ a.defers .returning w
 rw [h.defers.trans hds]
 exact ⟨v, hr a h, v, rfl, hR⟩
theorem zcC {D : Nat} (hds : n.ds = [{ target := .collected D, args := #[] }]) (hD : w.heap[D]? = some (.deferred (some []))) (hr : Res P fn E n (w.putObj D (.deferred none)) v) (hR : R v (w.putObj D (.deferred none))) : ∀ a, Has n a E → zfr P fn R .ret a w := fun a h => by
 show LeavesInM (FR none) 0 P fn a.tmps _ a.defers .returning w
 rw [h.defers.trans hds]
 exact ⟨(by intro h; cases h), .inl ⟨D, _, rfl, run_takeDeferred hD, v, hr a h, v, rfl, hR⟩⟩
theorem retQ (hds : n.ds = []) (hr : Res P fn E n w v) (hR : R v w) : ∀ a, Has n a E → zfL P fn R .ret a w := fun a h => ⟨h.defers.trans hds, v, hr a h, v, rfl, hR⟩
theorem zkZ {a : Act} (h : zfL P fn R .ret a w) : zfL P fn R .normal a w := h
theorem zmf {a : Act} (h : zfr P fn R .ret a w) : zfr P fn R .normal a w := h
end ret
theorem Hp.put {B : Nat} {A : Nat → Prop} {w : World} {L : List Ob} {i b : Nat} {o : Obj} (o' : Obj) (h : Hp B A w L) (hi : L[i]? = some (obO b o)) (hB : B ≤ w.heap.size) (hA : ∀ b, w.heap.size ≤ b → A b) :
  Hp B A (w.putObj b o') (L.set i (obO b o')) ∧ Tr Dw B A w A (w.putObj b o') := by
 obtain ⟨f, ⟨rfl, hp⟩, hb, hset⟩ := h.at hi
 have hlt := (hb b (by simp)).2.1
 have hmv : Mv Dw B A w A (w.putObj b o') (some b) :=
  ⟨rfl, rfl, rfl, by simp, fun _ => Nat.le_refl _, fun k hk hne => World.putObj_heap_other (fun e => hne (by rw [e])), fun k hk => by cases hk; exact ⟨(hb b (by simp)).1, (hb b (by simp)).2.2⟩, fun _ h => h, fun _ _ h => h, fun b' hb' => hA b' (by simpa using hb')⟩
 exact ⟨hset A _ (some b) _ _ hmv (fun k hk => by cases hk; simp) ⟨rfl, World.putObj_heap_same hlt⟩ fun b' hb' => ⟨.inl hb', (hb b' hb').1, (hb b' hb').2.2⟩, hmv.tr hB⟩
theorem Hp.obj {B : Nat} {A : Nat → Prop} {w : World} {L : List Ob} {i b : Nat} {o : Obj} (h : Hp B A w L) (hi : L[i]? = some (obO b o)) : w.heap[b]? = some o := by
 obtain ⟨f, ⟨rfl, hp⟩, _⟩ := h.at hi
 exact hp
def zax : Exit → Option (Option Code)
 | .normal => some none
 | .ret => some (some .ret)
 | .exit id => some (some (.exit id))
 | _ => none
def Rd (P : Program) (n : Fr) (l : Nat) (assign body : Code) (Q : Exit → Act → World → Prop) (E : Env) (w : World) : Prop :=
 C P n assign (Exit.then (fun a₁ w₁ => ∃ w₂, (Instr.beginRound l).run P w₁ = .ok () w₂ ∧ body.wpIn (FR n.ro) 0 P Q a₁ w₂) (fun _ _ _ => False)) E w
def zlZ {S : Type} (B : Nat) (A : Nat → Prop) (w : World) (I : S → Ob) (r1 : Ob) (L : List Ob) (jump : Nat → Code) (s' : S) (j : Option Nat) : Exit → Act → World → Prop :=
 fun e _ w' => zax e = some (j.map jump) ∧ ∃ A', Tr Dw B A w A' w' ∧ Hp B A' w' (I s' :: r1 :: L)
theorem zdC {P : Program} {n : Fr} {l : Nat} {body : Code} {Q : Exit → Act → World → Prop} {E : Env} {w : World} {B : Nat} {A : Nat → Prop} {L : List Ob} {i : Nat} {rc : Loop} {a : Act}
  (hH : Hp B A w L) (hi : L[i]? = some (obO l (.loop rc))) (hst : rc.state = .ready) (hB : B ≤ w.heap.size) (hA : ∀ b, w.heap.size ≤ b → A b)
  (h : ∀ w2, Hp B A w2 (L.set i (obO l (.loop { rc with state := .busy }))) → Tr Dw B A w A w2 → C P n body Q E w2) (ha : Has n a E) :
  ∃ w₂, (Instr.beginRound l).run P w = .ok () w₂ ∧ body.wpIn (FR n.ro) 0 P Q a w₂ := by
 obtain ⟨h1, h2⟩ := hH.put (.loop { rc with state := .busy }) hi hB hA
 exact ⟨_, run_beginRound (hH.obj hi) hst, h _ h1 h2 a ha⟩
def zdb : List Nat → List Value → Env
 | p :: ps, v :: vs => (p, v) :: zdb ps vs
 | _, _ => []
theorem zgi {n : Fr} {a : Act} {E : Env} : ∀ (ps : List Nat) (vs : List Value), Has n a E → (ps.all fun p => Nat.blt p n.sz && (E.get p).isNone) = true → ps.Nodup → ps.length = vs.length →
  Has n { a with tmps := (ps.zip vs).foldl (fun t (p, v) => t.setIfInBounds p v) a.tmps } (zdb ps vs ++ E)
 | [], _, h, _, _, _ => by cases h; exact ⟨‹_›, ‹_›, by simpa [zdb]⟩
 | p :: ps, [], _, _, _, hl => by simp at hl
 | p :: ps, v :: vs, h, hp, hnd, hl => by
  simp only [List.all_cons, Bool.and_eq_true] at hp
  have h1 := h.put (v := v) hp.1.1
  have h2 := zgi (E := E) ps vs (a := a.put (some p) v) ⟨h1.size, h1.defers, fun t u hg => h1.get t u (by
   rw [Env.get]
   cases hb : Nat.beq p t with
   | true =>
    have := Nat.eq_of_beq_eq_true hb
    subst this
    rw [Option.isNone_iff_eq_none.1 hp.1.2] at hg
    cases hg
   | false => exact hg)⟩ (by simpa using hp.2) (List.nodup_cons.1 hnd).2 (by simpa using hl)
  refine ⟨h2.size, h2.defers, fun t u hg => ?_⟩
  simp only [zdb, List.cons_append, Env.get] at hg
  cases hb : Nat.beq p t with
  | true =>
   rw [hb] at hg
   cases hg
   have := Nat.eq_of_beq_eq_true hb
   subst this
   have key : ∀ (ps : List Nat) (vs : List Value) (t0 : Array Value), p ∉ ps → ((ps.zip vs).foldl (fun t (p, v) => t.setIfInBounds p v) t0)[p]? = t0[p]? := by
    intro ps
    induction ps with
    | nil => intro vs t0 _; rfl
    | cons q qs ih =>
     intro vs t0 hq
     cases vs with
     | nil => rfl
     | cons u us =>
      simp only [List.zip_cons_cons, List.foldl_cons]
      rw [ih us _ (fun h => hq (List.mem_cons_of_mem _ h)), Array.getElem?_setIfInBounds_ne (fun e => hq (by simp [e]))]
   simp only [List.zip_cons_cons, List.foldl_cons]
   rw [key ps vs _ (List.nodup_cons.1 hnd).1]
   have := h1.get p v (by simp [Env.get])
   simpa [Act.put] using this
  | false =>
   rw [hb] at hg
   have := h2.get t u hg
   simpa [Act.put] using this
theorem zbj {P : Program} {n : Fr} {Q : Exit → Act → World → Prop} {E : Env} {w : World} {B : Nat} {A : Nat → Prop} {L : List Ob} {X S : Type} {g : Operand} {ps : Array Tmp} {assign body : Code} {gv : Value}
  (arg : X → List Value) (I : S → Ob) (bd : X → S → Option (S × Option Nat)) (jump : Nat → Code) {s0 : S} {zf : S × Option Nat}
  (hro : n.ro = none) (hg : ev E g = some gv) (hps : (ps.toList.all fun p => Nat.blt p n.sz && (E.get p).isNone) = true) (hnd : ps.toList.Nodup) (hlen : ∀ x, ps.toList.length = (arg x).length)
  (hB : B ≤ w.heap.size) (hA : ∀ b, w.heap.size ≤ b → A b) (hH : Hp B A w (I s0 :: L))
  (gf : FuncId) (lb : Array Value) (hgv : gv = .func (.func gf) #[] lb) (hcall : ∀ (args : Array Value) (w : World), (callFunc gf args).run P w = .ok (.enter gf args) w)
  (hit : ∀ (Ys : S × Option Nat → Ob) (yv : Value) (w1 : World) (A1 : Nat → Prop) (L1 : List Ob), B ≤ w1.heap.size → (∀ b, w1.heap.size ≤ b → A1 b) → Tr Dw B A w A1 w1 → Hp B A1 w1 (Ys (s0, none) :: L1) → yv.cells.toList = [yv] →
   (∀ (w2 : World) (A2 : Nat → Prop) (L2 : List Ob) (x : X) (z : S × Option Nat) (b : Bool) (z' : S × Option Nat), B ≤ w2.heap.size → (∀ b, w2.heap.size ≤ b → A2 b) → Tr Dw B A1 w1 A2 w2 → Hp B A2 w2 (Ys z :: L2) → QD bd x z = some (b, z') →
    CallV P yv (arg x) w2 fun v w3 => v = .bool b ∧ ∃ A3, Tr Dw B A2 w2 A3 w3 ∧ Hp B A3 w3 (Ys z' :: L2)) →
   Ret P gf (#[yv] ++ lb) w1 fun _ w' => ∃ A', Tr Dw B A1 w1 A' w' ∧ Hp B A' w' (Ys zf :: L1))
  (hround : ∀ (l : Nat) (rc : Loop) (w1 : World) (A1 : Nat → Prop) (L1 : List Ob) (x : X) (s : S) (s' : S) (j : Option Nat), rc.state = .ready → B ≤ w1.heap.size → (∀ b, w1.heap.size ≤ b → A1 b) → Tr Dw B A w A1 w1 → Hp B A1 w1 (I s :: obO l (.loop rc) :: L1) → bd x s = some (s', j) →
   Rd P ⟨n.sz, [], some l⟩ l assign body (zlZ (Dw := Dw) B A1 w1 I (obO l (.loop { rc with state := .busy })) L1 jump s' j) (zdb ps.toList (arg x) ++ E) w1)
  (hnorm : zf.2 = none → ∀ (D : Nat) (w' : World) (A' : Nat → Prop), Tr Dw B A w A' w' → Hp B A' w' (I zf.1 :: obO D (.deferred (some [])) :: L) → ∀ a, Has ⟨n.sz, { target := .collected D, args := #[] } :: n.ds, none⟩ a E → Q .normal a w')
  (hjump : ∀ k, zf.2 = some k → ∀ (D : Nat) (w' : World) (A' : Nat → Prop), Tr Dw B A w A' w' → Hp B A' w' (I zf.1 :: obO D (.deferred (some [])) :: L) → C P ⟨n.sz, { target := .collected D, args := #[] } :: n.ds, none⟩ (jump k) Q E w') :
  C P n (.rangeFunc g ps assign body) Q E w := by
 intro a ha
 have hag := ha.eval hg
 rw [hgv] at hag
 refine wpIn_rangeFunc fun fn _ => ?_
 rw [zkO, hro]
 obtain ⟨rc, hrc⟩ : ∃ rc : LoopState → Option Code → Loop, rc = fun st pe => { state := st, pending := pe, fn, tmps := a.tmps, params := ps, assign, body, defers := w.heap.size } := ⟨_, rfl⟩
 have hH1 := hH.alloc (.deferred (some [])) hB hA
 have hm1 := jN (Dw := Dw) B (w := w) (.deferred (some [])) hA
 have ht1 := hm1.tr hB
 have hB1 := Nat.le_trans hB ht1.ex.size
 have hs1 : (w.alloc (.deferred (some []))).heap.size = w.heap.size + 1 := by simp
 have hH2 := hH1.alloc (.loop (rc .ready none)) hB1 ht1.new
 have hm2 := jN (Dw := Dw) B (w := w.alloc (.deferred (some []))) (.loop (rc .ready none)) ht1.new
 have ht2 := ht1.trans (hm2.tr hB1)
 rw [hs1] at hH2
 generalize hAe : (fun b => (A b ∧ b ≠ w.heap.size) ∧ b ≠ (w.alloc (.deferred (some []))).heap.size) = A1 at ht2
 rw [hs1] at hAe
 rw [hAe] at hH2
 generalize hWe : (w.alloc (.deferred (some []))).alloc (.loop (rc .ready none)) = W1 at ht2 hH2
 refine ⟨w.heap.size + 1, [{ target := .collected w.heap.size, args := #[] }], W1, { target := .fn (.func gf) lb, args := #[.func (.yield (w.heap.size + 1)) #[] #[]] }, W1, gf,
  #[.func (.yield (w.heap.size + 1)) #[] #[]] ++ lb, W1, ?_, ?_, fun _ _ => trivial, ?_, zdA _, ?_⟩
 ·rw [← hWe, hrc]; exact run_enterLoop_outer _ _ _ _ _
 ·simp only [resolve, hag]
  simp [go_sem]
 ·simp [invoke, go_sem, hcall]
 let Ys : S × Option Nat → Ob := fun z => obE fun _ : Unit => [I z.1, obO (w.heap.size + 1) (.loop (rc (if z.2.isNone then .ready else .done) (z.2.map jump))), obO w.heap.size (.deferred (some []))]
 have hH3 : Hp B A1 W1 (Ys (s0, none) :: L) := by
  refine Hp.pack (F := fun _ : Unit => [I s0, obO (w.heap.size + 1) (.loop (rc .ready none)), obO w.heap.size (.deferred (some []))]) () ?_
  have h1 := hH2.front (i := 1) rfl
  have h2 := h1.front (i := 1) rfl
  exact h2.front (i := 2) rfl
 have hB2 := Nat.le_trans hB ht2.ex.size
 refine zga (Calls.mono (hit Ys (.func (.yield (w.heap.size + 1)) #[] #[]) W1 A1 L hB2 ht2.new ht2 hH3 rfl ?_) ?_)
 ·intro w2 A2 L2 x z b z' hB3 hA3 ht3 hHz hy
  obtain ⟨s, jz⟩ := z
  unfold QD at hy
  cases jz with
  | some k => simp at hy
  | none =>
   simp only [Option.isNone_none, if_true] at hy
   obtain ⟨⟨s', j⟩, hbd, hy⟩ := Option.bind_eq_some_iff.1 hy
   simp only [Option.some.injEq, Prod.mk.injEq] at hy
   obtain ⟨rfl, rfl⟩ := hy
   obtain ⟨_, hHz⟩ := Hp.open hHz
   have hHz : Hp B A2 w2 (I s :: obO (w.heap.size + 1) (.loop (rc .ready none)) :: (obO w.heap.size (.deferred (some [])) :: L2)) := hHz
   have hl := hHz.obj (i := 1) (b := w.heap.size + 1) rfl
   have hr := hround (w.heap.size + 1) (rc .ready none) w2 A2 _ x s s' j (by rw [hrc]) hB3 hA3 (ht2.trans ht3) hHz hbd
   refine CallV.yield hl (by rw [hrc]; have := hlen x; simpa using this.symm) (roundIn_of_wpIn (F := FR none) trivial ?_)
   have hHas : Has ⟨n.sz, [], some (w.heap.size + 1)⟩ { tmps := (((rc .ready none).params.zip (arg x).toArray).foldl (fun tmps (t, a) => tmps.setIfInBounds t a) (rc .ready none).tmps), defers := [] } (zdb ps.toList (arg x) ++ E) := by
    have := zgi (n := ⟨n.sz, [], some (w.heap.size + 1)⟩) (a := { a with defers := [] }) (E := E) ps.toList (arg x) ⟨ha.size, rfl, ha.get⟩ hps hnd (hlen x)
    rw [hrc]
    have e : (ps.zip (arg x).toArray).foldl (fun (tmps : Array Value) (x : Tmp × Value) => tmps.setIfInBounds x.1 x.2) a.tmps = (ps.toList.zip (arg x)).foldl (fun (tmps : Array Value) (x : Tmp × Value) => tmps.setIfInBounds x.1 x.2) a.tmps := by
     rw [← Array.foldl_toList, Array.toList_zip]
    show Has _ { tmps := (ps.zip (arg x).toArray).foldl (fun (tmps : Array Value) (x : Tmp × Value) => tmps.setIfInBounds x.1 x.2) a.tmps, defers := [] } _
    rw [e]
    exact this
   have hw := hr _ hHas
   have e1 : (rc .ready none).assign = assign := by rw [hrc]
   have e2 : (rc .ready none).body = body := by rw [hrc]
   rw [e1, e2]
   refine wpIn_mono hw ?_
   intro e a1 w1' hq
   cases e with
   | normal =>
    obtain ⟨wb, h1, h2⟩ := hq
    refine ⟨wb, h1, wpIn_mono h2 ?_⟩
    intro e a4 w4 hp
    obtain ⟨hex, A4, ht4, hH4⟩ := hp
    have hl4 := hH4.obj (i := 1) (b := w.heap.size + 1) rfl
    have hB4 := Nat.le_trans hB3 ht4.ex.size
    have fin : ∀ jc : Option Code, jc = j.map jump → ∃ v w', (Instr.endRound (w.heap.size + 1) jc).run P w4 = .ok v w' ∧ ∃ v', Ending.returned v = Ending.returned v' ∧ v' = .bool j.isNone ∧ ∃ A3, Tr Dw B A2 w2 A3 w' ∧ Hp B A3 w' (Ys (s', j) :: L2) := by
     rintro jc rfl
     have hrun := run_endRound (P := P) (j.map jump) hl4
     obtain ⟨h5, h6⟩ := hH4.put (Dw := Dw) (i := 1) (.loop (rc (if j.isNone then .ready else .done) (j.map jump))) rfl hB4 ht4.new
     refine ⟨_, _, hrun, _, rfl, by cases j <;> rfl, A4, ?_, ?_⟩
     ·have : w4.putObj (w.heap.size + 1) (.loop { { rc .ready none with state := .busy } with state := if (j.map jump).isNone then .ready else .done, pending := j.map jump }) = w4.putObj (w.heap.size + 1) (.loop (rc (if j.isNone then .ready else .done) (j.map jump))) := by
       rw [hrc]; cases j <;> rfl
      rw [this]
      exact ht4.trans h6
     ·have : w4.putObj (w.heap.size + 1) (.loop { { rc .ready none with state := .busy } with state := if (j.map jump).isNone then .ready else .done, pending := j.map jump }) = w4.putObj (w.heap.size + 1) (.loop (rc (if j.isNone then .ready else .done) (j.map jump))) := by
       rw [hrc]; cases j <;> rfl
      rw [this]
      exact Hp.pack (F := fun _ : Unit => [I s', obO (w.heap.size + 1) (.loop (rc (if j.isNone then .ready else .done) (j.map jump))), obO w.heap.size (.deferred (some []))]) () h5
    cases e with
    | normal => exact fin _ (by simpa [zax] using hex)
    | ret => exact fin _ (by simpa [zax] using hex)
    | exit id => exact fin _ (by simpa [zax] using hex)
    | goto t => simp [zax] at hex
    | panic ch => simp [zax] at hex
    | outgrown => simp [zax] at hex
   | exit id => exact hq
   | goto t => exact hq
   | ret => exact hq
   | panic ch => exact hq
   | outgrown => exact hq
 ·rintro e w' ⟨v, rfl, A', ht', hH'⟩
  obtain ⟨_, hH'⟩ := Hp.open hH'
  have hH' : Hp B A' w' (I zf.1 :: obO (w.heap.size + 1) (.loop (rc (if zf.2.isNone then .ready else .done) (zf.2.map jump))) :: obO w.heap.size (.deferred (some [])) :: L) := hH'
  have hl := hH'.obj (i := 1) (b := w.heap.size + 1) rfl
  have ht3 := ht2.trans ht'
  have hB3 := Nat.le_trans hB ht3.ex.size
  have hend := run_endLoop (P := P) hl (by rw [hrc]; cases zf.2 <;> simp)
  obtain ⟨h5, h6⟩ := hH'.put (Dw := Dw) (i := 1) (.loop { rc (if zf.2.isNone then .ready else .done) (zf.2.map jump) with state := .exhausted }) rfl hB3 ht'.new
  have h7 : Hp B A' _ (I zf.1 :: obO w.heap.size (.deferred (some [])) :: L) := h5.drop (i := 1) rfl
  refine ⟨zf.2.map jump, w'.putObj (w.heap.size + 1) (.loop { rc (if zf.2.isNone then .ready else .done) (zf.2.map jump) with state := .exhausted }), by rw [hrc] at hend ⊢; exact hend, ?_⟩
  have hd : Has ⟨n.sz, { target := .collected w.heap.size, args := #[] } :: n.ds, none⟩ { a with defers := [{ target := .collected w.heap.size, args := #[] }] ++ a.defers } E := ⟨ha.size, by simp [ha.defers], ha.get⟩
  cases hz : zf.2 with
  | none => 
   rw [hz] at h6 h7
   show Q .normal _ _
   exact hnorm hz _ _ _ (ht3.trans h6) h7 _ hd
  | some k =>
   rw [hz] at h6 h7
   have := hjump k hz _ _ _ (ht3.trans h6) h7 _ hd
   exact this
end Go.Gw
