import Derived.Test.YtiblagcmjobknaaGreatDoorGw
import Derived.Test.YtiblagcmjobknaaGreatDoorGs
namespace Go.Gw
open Go Go.RowKit Go.Pu
variable {Dw : Prop}
set_option linter.unusedVariables false
abbrev Ii (x : Int) : Value := .int .i64 x
abbrev Pt (b : Nat) : Value := .pointer (some ⟨b, 0, none⟩)
theorem Be (b : Bool) : b = true ∨ b = false := Bool.eq_false_or_eq_true b
theorem Bs {α β : Type} {x : Option α} {f : α → Option β} {b : β} (h : Option.bind x f = some b) : ∃ a, x = some a ∧ f a = some b := Option.bind_eq_some_iff.1 h
theorem Oi {α : Type} {a b : α} (h : some a = some b) : a = b := Option.some.inj h
section
variable {P : Program} {n : Fr} {ops : Array Oper} {Q : Exit → Act → World → Prop} {rest : List Oper} {E : Env} {w : World} {d : Nat} {ty t : TypeId} {pos : String} {af : Array Edge} {x : Operand} {v : Value} {W : World → Prop} {QA : Act → Prop} {o : Oper}
theorem Mm (h : V P n ops Q rest ((d, v) :: E) w) (hx : ev E x = some v := by exact rfl) (hn : Nat.blt d n.sz = true := by exact rfl) : V P n ops Q (⟨some d, .move x, ty, pos, af, none⟩ :: rest) E w := V_y (zks hx) rfl rfl hn h
theorem As (h : V P n ops Q rest ((d, v) :: E) w) (hx : ev E x = some v := by exact rfl) (hn : Nat.blt d n.sz = true := by exact rfl) : V P n ops Q (⟨some d, .assign x, ty, pos, af, none⟩ :: rest) E w := V_y (zhq hx) rfl rfl hn h
theorem Qm (h : VQ P n ops W QA rest ((d, v) :: E)) (hx : ev E x = some v := by exact rfl) (hn : Nat.blt d n.sz = true := by exact rfl) : VQ P n ops W QA (⟨some d, .move x, ty, pos, af, none⟩ :: rest) E := VQ_y (fun _ _ => zks hx) rfl rfl hn h
theorem Qa (h : VQ P n ops W QA rest ((d, v) :: E)) (hx : ev E x = some v := by exact rfl) (hn : Nat.blt d n.sz = true := by exact rfl) : VQ P n ops W QA (⟨some d, .assign x, ty, pos, af, none⟩ :: rest) E := VQ_y (fun _ _ => zhq hx) rfl rfl hn h
theorem Nc {a : Addr} (h : V P n ops Q rest ((d, .pointer (some a)) :: E) w) (hx : ev E x = some (.pointer (some a)) := by exact rfl) (hn : Nat.blt d n.sz = true := by exact rfl) : V P n ops Q (⟨some d, .nilCheck x, ty, pos, af, none⟩ :: rest) E w := V_y (zbO hx) rfl rfl hn h
theorem Fa {b off i : Nat} {fs : Array Field} {f : Field} {sz : Nat} (ht : P.underlying t = some (.struct fs)) (hf : fs[i]? = some f) (hs : ∀ w, (Go.sizeOf f.type).run P w = .ok sz w) (h : V P n ops Q rest ((d, .pointer (some ⟨b, off + f.offset, none⟩)) :: E) w) (hz : sz ≠ 0 := by decide)
  (hx : ev E x = some (.pointer (some ⟨b, off, none⟩)) := by exact rfl) (hn : Nat.blt d n.sz = true := by exact rfl) : V P n ops Q (⟨some d, .fieldAddr t x i, ty, pos, af, none⟩ :: rest) E w := V_y (zcF ht hf hs hz hx) rfl rfl hn h
theorem Qf {b off i : Nat} {fs : Array Field} {f : Field} {sz : Nat} (ht : P.underlying t = some (.struct fs)) (hf : fs[i]? = some f) (hs : ∀ w, (Go.sizeOf f.type).run P w = .ok sz w) (h : VQ P n ops W QA rest ((d, .pointer (some ⟨b, off + f.offset, none⟩)) :: E)) (hz : sz ≠ 0 := by decide)
  (hx : ev E x = some (.pointer (some ⟨b, off, none⟩)) := by exact rfl) (hn : Nat.blt d n.sz = true := by exact rfl) : VQ P n ops W QA (⟨some d, .fieldAddr t x i, ty, pos, af, none⟩ :: rest) E := VQ_y (fun _ _ => zcF ht hf hs hz hx) rfl rfl hn h
theorem Ld {b off : Nat} (hc : w.cell? ⟨b, off, none⟩ = some v) (ha : ∀ w, (isAgg t).run P w = .ok false w) (h : V P n ops Q rest ((d, v) :: E) w) (hx : ev E x = some (.pointer (some ⟨b, off, none⟩)) := by exact rfl) (hn : Nat.blt d n.sz = true := by exact rfl) : V P n ops Q (⟨some d, .load t x, ty, pos, af, none⟩ :: rest) E w := V_y (qn hc ha hx) rfl rfl hn h
theorem Ql {b off : Nat} (hc : ∀ w, W w → w.cell? ⟨b, off, none⟩ = some v) (ha : ∀ w, (isAgg t).run P w = .ok false w) (h : VQ P n ops W QA rest ((d, v) :: E)) (hx : ev E x = some (.pointer (some ⟨b, off, none⟩)) := by exact rfl) (hn : Nat.blt d n.sz = true := by exact rfl) : VQ P n ops W QA (⟨some d, .load t x, ty, pos, af, none⟩ :: rest) E := VQ_y (fun w hw => qn (hc w hw) ha hx) rfl rfl hn h
theorem To {Qx : Exit → Act → World → Prop} {y : Code} (h : C P n y Q E w) (hq : ∀ a w, Qx .normal a w = y.wpIn (FR n.ro) 0 P Q a w := by exact fun _ _ => rfl) : V P n ops Qx [] E w := V_to hq h
theorem Gm {op : Op} {j u : Nat} {want b bad : Bool} (hb : b = bad) (h : V P n ops Q rest ((d, undef) :: E) w) (hj : Jn ops j = some u := by exact rfl) (ht : E.get u = some (.bool b) := by exact rfl) (hw : (bad == want) = false := by exact rfl) (hn : Nat.blt d n.sz = true := by exact rfl) : V P n ops Q (⟨some d, op, ty, pos, af, some (j, want)⟩ :: rest) E w := V_gn rfl hj ht hb hw rfl hn h
theorem Qg {op : Op} {j u : Nat} {want b bad : Bool} (hb : b = bad) (h : VQ P n ops W QA rest ((d, undef) :: E)) (hj : Jn ops j = some u := by exact rfl) (ht : E.get u = some (.bool b) := by exact rfl) (hw : (bad == want) = false := by exact rfl) (hn : Nat.blt d n.sz = true := by exact rfl) : VQ P n ops W QA (⟨some d, op, ty, pos, af, some (j, want)⟩ :: rest) E := zlU rfl hj ht hb hw rfl hn h
theorem Gf {op : Op} {od : Option Nat} {j u : Nat} {want b : Bool} (hb : b = want) (h : V P n ops Q (⟨od, op, ty, pos, af, none⟩ :: rest) E w) (hj : Jn ops j = some u := by exact rfl) (ht : E.get u = some (.bool b) := by exact rfl) : V P n ops Q (⟨od, op, ty, pos, af, some (j, want)⟩ :: rest) E w := V_ge rfl hj ht hb h
theorem Qh {op : Op} {od : Option Nat} {j u : Nat} {want b : Bool} (hb : b = want) (h : VQ P n ops W QA (⟨od, op, ty, pos, af, none⟩ :: rest) E) (hj : Jn ops j = some u := by exact rfl) (ht : E.get u = some (.bool b) := by exact rfl) : VQ P n ops W QA (⟨od, op, ty, pos, af, some (j, want)⟩ :: rest) E := zlX rfl hj ht hb h
end
section
variable {P : Program} {n : Fr} {Q : Exit → Act → World → Prop} {E : Env} {w : World} {x y : Code} {id : Nat} {l : List Oper}
theorem Sr (h : V P n l.toArray (Exit.then (fun a w => y.wpIn (FR n.ro) 0 P Q a w) Q) l E w) : C P n (.seq (.region id l.toArray false) y) Q E w := zh (zo h)
end
section
variable {P : Program} {n : Fr} {ops : Array Oper} {Q : Exit → Act → World → Prop} {rest : List Oper} {E : Env} {w w' : World} {d : Nat} {ty t : TypeId} {pos : String} {af : Array Edge} {x : Operand} {v : Value} {W : World → Prop} {QA : Act → Prop} {o : Oper}
theorem Vy {op : Op} (hy : Y P n E ⟨some d, op, ty, pos, af, none⟩ w v w') (h : V P n ops Q rest ((d, v) :: E) w') (hn : Nat.blt d n.sz = true := by exact rfl) : V P n ops Q (⟨some d, op, ty, pos, af, none⟩ :: rest) E w := V_y hy rfl rfl hn h
theorem Qv {op : Op} (hy : ∀ w, W w → Y P n E ⟨some d, op, ty, pos, af, none⟩ w v w) (h : VQ P n ops W QA rest ((d, v) :: E)) (hn : Nat.blt d n.sz = true := by exact rfl) : VQ P n ops W QA (⟨some d, op, ty, pos, af, none⟩ :: rest) E := VQ_y hy rfl rfl hn h
theorem Qn {a : Addr} (h : VQ P n ops W QA rest ((d, .pointer (some a)) :: E)) (hx : ev E x = some (.pointer (some a)) := by exact rfl) (hn : Nat.blt d n.sz = true := by exact rfl) : VQ P n ops W QA (⟨some d, .nilCheck x, ty, pos, af, none⟩ :: rest) E := VQ_y (fun _ _ => zbO hx) rfl rfl hn h
theorem Qc {b off : Nat} (hc : w.cell? ⟨b, off, none⟩ = some v) (ha : ∀ w, (isAgg t).run P w = .ok false w) (h : VQ P n ops (fun w' => Kp Dw w w') QA rest ((d, v) :: E)) (hx : ev E x = some (.pointer (some ⟨b, off, none⟩)) := by exact rfl) (hn : Nat.blt d n.sz = true := by exact rfl) : VQ P n ops (fun w' => Kp Dw w w') QA (⟨some d, .load t x, ty, pos, af, none⟩ :: rest) E :=
 VQ_y (fun w' hw' => qn ((World.cell?_of_block (hw'.block _ (World.block_lt_of_cell? _ _ hc))).trans hc) ha hx) rfl rfl hn h
theorem Qi {A : Nat → Prop} {b off : Nat} {i : Int} (hc : El A w b off i) (ha : ∀ w, (isAgg t).run P w = .ok false w) (h : VQ P n ops (fun w' => Kp Dw w w') QA rest ((d, .int .i64 i) :: E)) (hx : ev E x = some (.pointer (some ⟨b, off, none⟩)) := by exact rfl) (hn : Nat.blt d n.sz = true := by exact rfl) : VQ P n ops (fun w' => Kp Dw w w') QA (⟨some d, .load t x, ty, pos, af, none⟩ :: rest) E :=
 VQ_y (fun w' hw' => qn (El.int (El.kp (Dw := Dw) hc hw')) ha hx) rfl rfl hn h
end
theorem Hf {B : Nat} {A : Nat → Prop} {w : World} {L : List Ob} {O : Ob} (i : Nat) (h : Hp B A w L) (hi : L[i]? = some O := by exact rfl) : Hp B A w (O :: L.eraseIdx i) := Hp.front h hi
theorem Hd {B : Nat} {A : Nat → Prop} {w : World} {L : List Ob} {O : Ob} (i : Nat) (h : Hp B A w L) (hi : L[i]? = some O := by exact rfl) : Hp B A w (L.eraseIdx i) := Hp.drop h hi
theorem Bx {B : Nat} {A A1 : Nat → Prop} {w w1 : World} (h : B ≤ w.heap.size) (t : Tr Dw B A w A1 w1) : B ≤ w1.heap.size := Nat.le_trans h t.ex.size
theorem Tt {B : Nat} {A A1 A2 : Nat → Prop} {w w1 w2 : World} (h : Tr Dw B A w A1 w1) (t : Tr Dw B A1 w1 A2 w2) : Tr Dw B A w A2 w2 := Tr.trans h t
section
variable {P : Program} {n : Fr} {a : Act} {E E' : Env} {w : World}
theorem Has.sb (h : Has n a E) (hs : subE E' E := by repeat (first | exact trivial | refine ⟨rfl, ?_⟩)) : Has n a E' := h.sub hs
theorem ib {id : Nat} {Qx : Exit → Act → World → Prop} : Exit.inBlock id Qx .ret a w = Qx .ret a w := rfl
theorem th {K : Act → World → Prop} {Qx : Exit → Act → World → Prop} : Exit.then K Qx .ret a w = Qx .ret a w := rfl
end
section
variable {P : Program} {n : Fr} {ops : Array Oper} {Q : Exit → Act → World → Prop} {rest : List Oper} {E : Env} {w w' : World} {d : Nat} {ty t e : TypeId} {pos : String} {af : Array Edge} {x y : Operand} {v : Value}
theorem Sn {w0 : World} {b : Nat} {cs : Array Value} {sz : Nat} (hb : NewB w0 w b cs e) (hs : ∀ w, (Go.sizeOf t).run P w = .ok sz w) (h : ∀ w2, NewB w0 w2 b v.cells e → V P n ops Q rest E w2) (hv : ev E y = some v := by exact rfl) (hx : ev E x = some (.pointer (some ⟨b, 0, none⟩)) := by exact rfl) (h1 : v.cells.size = sz := by exact rfl) (h2 : cs.size = sz := by exact rfl)
  (hone : ∀ u ∈ v.cells.toList, u.oneCell' = true := by repeat (first | exact List.forall_mem_nil _ | refine List.forall_mem_cons.2 ⟨(by first | exact rfl | assumption), ?_⟩)) : V P n ops Q (⟨none, .store t x y, ty, pos, af, none⟩ :: rest) E w := zju hb hs hv hx h1 h2 hone h
theorem Vc {f : FuncId} {fv : Operand} {args : Array Operand} {ats : Array TypeId} {vs : List Value} {cap fst vals : Array Value} {R : Value → World → Prop} (hcall : ∀ (args : Array Value) (w : World), (callFunc f args).run P w = .ok (.enter f args) w) (hc : Ret P f vals w R) (h : ∀ v w', R v w' → V P n ops Q rest ((d, v) :: E) w')
  (hf : ev E fv = some (.func (.func f) fst cap) := by exact rfl) (hv : evs E args.toList = some vs := by exact rfl) (hvals : fst ++ vs.toArray ++ cap = vals := by exact rfl) (hn : Nat.blt d n.sz = true := by exact rfl) : V P n ops Q (⟨some d, .call ⟨.value fv, args, ats⟩, ty, pos, af, none⟩ :: rest) E w := zdZ hcall hf hv hvals hn hc h
theorem Sk {Qx : Exit → Act → World → Prop} {y : Code} (h : C P n y Q E w) (hq : ∀ a w, Qx .normal a w = y.wpIn (FR n.ro) 0 P Q a w := by exact fun _ _ => rfl) : C P n .skip Qx E w := zjZ hq h
end
theorem St {A : Nat → Prop} {w : World} (hA : ∀ b, w.heap.size ≤ b → A b) : w.heap.size ≤ w.heap.size ∧ Tr Dw w.heap.size A w A w ∧ Hp w.heap.size A w [] := ⟨Nat.le_refl _, Tr.refl hA, Hp.nil⟩
section
variable {P : Program} {n : Fr} {ops : Array Oper} {Q : Exit → Act → World → Prop} {rest : List Oper} {E : Env} {w : World} {d : Nat} {ty t : TypeId} {pos : String} {af : Array Edge} {x : Operand} {v : Value} {fn : Func} {R : Value → World → Prop}
theorem Rt (hr : Res P fn E n w v) (hR : R v w) (hq : ∀ a, Q .ret a w = zfL P fn R .ret a w := by intro _; (try simp only [↓ib, ↓th]); first | done | exact rfl) (hds : n.ds = [] := by exact rfl) : C P n .ret Q E w := jP fun a ha => by rw [hq]; exact retQ hds hr hR a ha
theorem Li {A : Nat → Prop} {b off : Nat} {i : Int} (hc : El A w b off i) (ha : ∀ w, (isAgg t).run P w = .ok false w) (h : V P n ops Q rest ((d, .int .i64 i) :: E) w) (hx : ev E x = some (.pointer (some ⟨b, off, none⟩)) := by exact rfl) (hn : Nat.blt d n.sz = true := by exact rfl) : V P n ops Q (⟨some d, .load t x, ty, pos, af, none⟩ :: rest) E w := V_y (qn (El.int hc) ha hx) rfl rfl hn h
theorem Cc {o : Operand} {b : Bool} {x y : Code} (ht : b = true → C P n x Q E w) (hf : b = false → C P n y Q E w) (ho : ev E o = some (.bool b) := by exact rfl) : C P n (.cond o x y) Q E w := zlG ho ht hf
end
theorem Ws {k N : Nat} (h : k < N) (hN : N ≤ maxLen) : some (Value.int .i64 (w64 ((k : Int) + 1))) = some (Value.int .i64 ((k + 1 : Nat) : Int)) := by rw [zdJ h hN]
end Go.Gw
