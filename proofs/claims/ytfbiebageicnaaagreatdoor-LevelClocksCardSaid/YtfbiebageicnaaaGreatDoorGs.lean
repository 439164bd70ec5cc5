import Derived.Test.YtfbiebageicnaaaGreatDoorGr
namespace Go.Gw
open Go Go.RowKit Go.Pu
variable {Dw : Prop}
set_option linter.unusedSimpArgs false
set_option linter.unusedVariables false
def Vb (A : Nat → Prop) (w : World) (b : Nat) (v : Value) : Prop := A b ∧ b < w.heap.size ∧ w.cell? ⟨b, 0, none⟩ = some v
theorem Vb.tr {B : Nat} {A A1 : Nat → Prop} {w w1 : World} {b : Nat} {v : Value} (h : Vb A w b v) (m : Tr Dw B A w A1 w1) : Vb A1 w1 b v :=
 ⟨(m.ex.block b h.2.1 h.1).1, Nat.lt_of_lt_of_le h.2.1 m.ex.size, by rw [World.cell?_of_block (a := ⟨b, 0, none⟩) (m.ex.block b h.2.1 h.1).2]; exact h.2.2⟩
theorem Vb.kp {A : Nat → Prop} {w w1 : World} {b : Nat} {v : Value} (h : Vb A w b v) (m : Kp Dw w w1) : Vb A w1 b v :=
 ⟨h.1, Nat.lt_of_lt_of_le h.2.1 m.size, by rw [World.cell?_of_block (a := ⟨b, 0, none⟩) (m.block b h.2.1)]; exact h.2.2⟩
theorem NewB.vb {w w1 : World} {b : Nat} {cs : Array Value} {t : TypeId} {A : Nat → Prop} {v : Value} (h : NewB w w1 b cs t) (hA : ∀ b, w.heap.size ≤ b → A b) (hc : cs.toList = [v]) : Vb A w1 b v :=
 ⟨hA b (by rw [h.blk]; exact Nat.le_refl _), by rw [h.size]; omega, by have := h.at 0 v (by rw [hc]; rfl); simpa using this⟩
section steps
variable {P : Program} {n : Fr} {E : Env} {w : World} {v : Value} {ρd : Option Nat} {ty t e : TypeId} {pos : String} {af : Array Edge} {g : Option (Nat × Bool)} {x y z : Operand} {A : Nat → Prop}
theorem Y_nilCheck {a : Addr} (hx : ev E x = some (.pointer (some a))) : Y P n E ⟨ρd, .nilCheck x, ty, pos, af, g⟩ w (.pointer (some a)) w := fun a hA => by
 simp only [execOp, hA.eval hx]
 simp
theorem Y_fieldAddrC {b off off2 i : Nat} {fs : Array Field} {f : Field} {sz : Nat} (ht : P.underlying t = some (.struct fs)) (hf : fs[i]? = some f) (hs : ∀ w, (Go.sizeOf f.type).run P w = .ok sz w) (hz : sz ≠ 0)
  (hx : ev E x = some (.pointer (some ⟨b, off, none⟩))) (ho : off + f.offset = off2) : Y P n E ⟨ρd, .fieldAddr t x i, ty, pos, af, g⟩ w (.pointer (some ⟨b, off2, none⟩)) w := by
 subst ho
 exact Y_fieldAddr ht hf hs hz hx
end steps
class Flat (α : Type) [GoT α] : Prop where
 flat : ∀ {A w A' w' cs} {x : α}, GoT.rep A w cs x → GoT.rep A' w' cs x
instance : Flat Int := ⟨fun h => h⟩
instance : Flat Bool := ⟨fun h => h⟩
instance : Flat ByteArray := ⟨fun h => h⟩
instance : Flat UInt8 := ⟨fun h => h⟩
instance : Flat UInt32 := ⟨fun h => h⟩
instance {α β : Type} [GoT α] [GoT β] [Flat α] [Flat β] : Flat (α × β) := ⟨fun h => by
 obtain ⟨c1, c2, rfl, h1, h2⟩ := h
 exact ⟨c1, c2, rfl, Flat.flat h1, Flat.flat h2⟩⟩
def Ownd {α : Type} [GoT α] (e : TypeId) (w w' : World) (v : Value) (l : List α) : Prop := ∃ f, OwP e (fun _ => True) w' v l f ∧ ∀ b ∈ f, w.heap.size ≤ b
section
variable {α : Type} [GoT α] [Flat α] {e : TypeId} {B i : Nat} {A : Nat → Prop} {w w' : World} {v : Value} {l : List α} {L : List Ob}
end
def obT : Ob := obF (fun _ _ => True) (fun _ _ => trivial)
theorem loadVar_agg {P : Program} {w : World} {b off : Nat} {cs : List Value} {t : TypeId} (hc : At w b off cs) (ha : ∀ w, (isAgg t).run P w = .ok true w) (hs : ∀ w, (Go.sizeOf t).run P w = .ok cs.length w) : (loadVar t ⟨b, off, none⟩).run P w = .ok (.agg cs.toArray) w := by
 have := run_loadCellsFrom (P := P) (w := w) cs b off 0 #[] (fun j u hj => by rw [Nat.zero_add]; exact hc j u hj)
 simp [loadVar, ha, hs, loadCells, this]
def rvar (tmps : Array Value) (r : ResultVar) : Sem Value := match r with | .tmp t => pure (tmps.getD t undef) | .cell a t => do loadVar t (← asAddr (tmps.getD a undef))
theorem results_rvar (fn : Func) (tmps : Array Value) : results fn tmps = (do
  let vs ← fn.results.mapM (rvar tmps)
  pure (if h : vs.size = 1 then vs[0] else .tuple vs)) := by
 unfold results
 congr 1
def RL (P : Program) (E : Env) (n : Fr) (w : World) (r : ResultVar) (v : Value) : Prop := ∀ a, Has n a E → (rvar a.tmps r).run P w = .ok v w
theorem RL.tmp {P : Program} {E : Env} {n : Fr} {w : World} {t : Nat} {v : Value} (h : E.get t = some v) : RL P E n w (.tmp t) v := fun a ha => by simp only [rvar, ha.getD h]; rfl
theorem RL.cell {P : Program} {E : Env} {n : Fr} {w : World} {c b off : Nat} {t : TypeId} {v : Value} (h : E.get c = some (.pointer (some ⟨b, off, none⟩))) (hl : (loadVar t ⟨b, off, none⟩).run P w = .ok v w) : RL P E n w (.cell c t) v := fun a ha => by
 simp only [rvar, ha.getD h]
 simp [asAddr, hl]
section
variable {P : Program} {n : Fr} {fn : Func} {E : Env} {w : World} {v x y : Value} {r1 r2 r3 : ResultVar}
theorem Res.l2 (hr : fn.results = #[r1, r2]) (h1 : RL P E n w r1 v) (h2 : RL P E n w r2 x) : Res P fn E n w (.tuple #[v, x]) := fun a h => by
 have e1 := h1 a h
 have e2 := h2 a h
 rw [results_rvar, hr]
 simp [e1, e2]
end
theorem Value.cells_one {v : Value} (h : v.oneCell' = true) : v.cells.toList = [v] := by
 cases v <;> simp_all [Value.cells, Value.oneCell']
end Go.Gw
namespace Go.Gw
open Go Go.RowKit Go.Pu
variable {Dw : Prop}
theorem Hp.freezeC {α : Type} [GoT α] {B i b : Nat} {A : Nat → Prop} {w : World} {L : List Ob} {cs : List Value} {t : TypeId} {x : α} (h : Hp B A w L) (hi : L[i]? = some (obC b cs t)) (hA : ∀ b, w.heap.size ≤ b → A b) (hr : GoT.rep A w cs x) :
  ∃ A1 : Nat → Prop, Tr Dw B A w A1 w ∧ El A1 w b 0 x ∧ Hp B A1 w (L.eraseIdx i) := by
 obtain ⟨h1, h2, h3, h4⟩ := h.cells hi
 obtain ⟨A1, f, ⟨rfl, hp⟩, hf, hs, ht, hh⟩ := h.frz hi hA
 exact ⟨A1, ht, ⟨(hf b (by simp)).1, (hf b (by simp)).2, cs, GoT.keep hr (.sub fun k _ hk => hs k hk), h1⟩, hh⟩
end Go.Gw
