import Derived.Test.YtiblagcmjobknaaGreatDoorGr
namespace Go.Gw
open Go Go.RowKit Go.Pu
variable {Dw : Prop}
set_option linter.unusedSimpArgs false
set_option linter.unusedVariables false
def Vb (A : Nat → Prop) (w : World) (b : Nat) (v : Value) : Prop := A b ∧ b < w.heap.size ∧ w.cell? ⟨b, 0, none⟩ = some v
theorem Vb.tr {B : Nat} {A A1 : Nat → Prop} {w w1 : World} {b : Nat} {v : Value} (h : Vb A w b v) (m : Tr Dw B A w A1 w1) : Vb A1 w1 b v :=
 ⟨(m.ex.block b h.2.1 h.1).1, Nat.lt_of_lt_of_le h.2.1 m.ex.size, by rw [World.cell?_of_block (a := ⟨b, 0, none⟩) (m.ex.block b h.2.1 h.1).2]; exact h.2.2⟩
theorem Vb.kp {A : Nat → Prop} {w w1 : World} {b : Nat} {v : Value} (h : Vb A w b v) (m : Kp Dw w w1) : Vb A w1 b v :=
 ⟨h.1, Nat.lt_of_lt_of_le h.2.1 m.size, by rw [World.cell?_of_block (a := ⟨b, 0, none⟩) (m.block b h.2.1)]; exact h.2.2⟩
theorem NewB.vb {w w1 : World} {b : Nat} {cs : Array Value} {t : TypeId} {A : Nat → Prop} {v : Value} (h : NewB w w1 b cs t) (hA : ∀ b, w.heap.size ≤ b → A b) (hc : cs.toList = [v]) : Vb A w1 b v :=
 ⟨hA b (by rw [h.blk]; exact Nat.le_refl _), by rw [h.size]; omega, by have := h.at 0 v (by rw [hc]; rfl); simpa using this⟩
section steps
variable {P : Program} {n : Fr} {E : Env} {w : World} {v : Value} {ρd : Option Nat} {ty t e : TypeId} {pos : String} {af : Array Edge} {g : Option (Nat × Bool)} {x y z : Operand} {A : Nat → Prop}
theorem zbO {a : Addr} (hx : ev E x = some (.pointer (some a))) : Y P n E ⟨ρd, .nilCheck x, ty, pos, af, g⟩ w (.pointer (some a)) w := fun a hA => by
 simp only [execOp, hA.eval hx]
 simp
theorem zhH {b off off2 i : Nat} {fs : Array Field} {f : Field} {sz : Nat} (ht : P.underlying t = some (.struct fs)) (hf : fs[i]? = some f) (hs : ∀ w, (Go.sizeOf f.type).run P w = .ok sz w) (hz : sz ≠ 0)
  (hx : ev E x = some (.pointer (some ⟨b, off, none⟩))) (ho : off + f.offset = off2) : Y P n E ⟨ρd, .fieldAddr t x i, ty, pos, af, g⟩ w (.pointer (some ⟨b, off2, none⟩)) w := by
 subst ho
 exact zcF ht hf hs hz hx
end steps
theorem El.out {α : Type} [GoT α] {A0 A : Nat → Prop} {w0 w : World} {b off : Nat} {x : α} (h : El A w b off x) (hA : ∀ b, w0.heap.size ≤ b → A0 b) (t : Tr Dw w0.heap.size A0 w0 A w) : El A0 w b off x :=
 h.keep (.sub fun k _ hk => (t.sub k hk).elim id (hA k))
class Flat (α : Type) [GoT α] : Prop where
 flat : ∀ {A w A' w' cs} {x : α}, GoT.rep A w cs x → GoT.rep A' w' cs x
instance : Flat Int := ⟨fun h => h⟩
instance : Flat Bool := ⟨fun h => h⟩
instance : Flat ByteArray := ⟨fun h => h⟩
instance : Flat UInt8 := ⟨fun h => h⟩
instance : Flat UInt32 := ⟨fun h => h⟩
instance {α β : Type} [GoT α] [GoT β] [Flat α] [Flat β] : Flat (α × β) := ⟨fun h => by
 obtain ⟨c1, c2, rfl, h1, h2⟩ := h
 exact ⟨c1, c2, rfl, Flat.flat h1, Flat.flat h2⟩⟩
theorem repL.flat {α : Type} [GoT α] [Flat α] {A A' : Nat → Prop} {w w' : World} {cs : List Value} {l : List α} (h : repL A w cs l) : repL A' w' cs l := by
 induction l generalizing cs with
 | nil => exact h
 | cons x r ih =>
  rw [repL] at h ⊢
  obtain ⟨c1, c2, rfl, h1, h2⟩ := h
  exact ⟨c1, c2, rfl, Flat.flat h1, ih h2⟩
def Ownd {α : Type} [GoT α] (e : TypeId) (w w' : World) (v : Value) (l : List α) : Prop := ∃ f, OwP e (fun _ => True) w' v l f ∧ ∀ b ∈ f, w.heap.size ≤ b
section
variable {α : Type} [GoT α] [Flat α] {e : TypeId} {B i : Nat} {A : Nat → Prop} {w w' : World} {v : Value} {l : List α} {L : List Ob}
theorem OwP.flat {A' : Nat → Prop} {f : List Nat} (h : OwP e A w v l f) : OwP e A' w v l f := by
 rcases h with h | ⟨g, cap, cur, cs, rfl, rfl, h4, h5, h6, h7, h8, h9⟩
 ·exact .inl h
 ·exact .inr ⟨g, cap, cur, cs, rfl, rfl, h4, h5, h6, h7, h8.flat, h9⟩
theorem Hp.ownd (h : Hp w.heap.size A w' L) (hi : L[i]? = some (obS e v l)) : Ownd e w w' v l := by
 obtain ⟨f, hp, hb, _⟩ := h.at hi
 exact ⟨f, OwP.flat hp, fun b hb' => (hb b hb').1⟩
theorem Hp.addOwnd (h : Hp B A w L) (hB : B ≤ w.heap.size) (hA : ∀ b, w.heap.size ≤ b → A b) (hk : Kp Dw w w') (ho : Ownd e w w' v l) : ∃ A1 : Nat → Prop, Tr Dw B A w A1 w' ∧ Hp B A1 w' (obS e v l :: L) := by
 obtain ⟨f, hp, hf⟩ := ho
 have hlt := (obS e v l).lt (f := f) (A := fun _ => True) hp
 have mv : Mv Dw B A w (fun b => A b ∧ b ∉ f) w' none :=
  ⟨hk.os, hk.tape, hk.output, hk.size, hk.dr, fun k hk' _ => hk.block k hk', (fun k h => by cases h), fun k h => h.1, fun k hk' ha => ⟨ha, fun h => by have := hf k h; omega⟩, fun b hb => ⟨hA b (Nat.le_trans hk.size hb), fun h => by have := hlt b h; omega⟩⟩
 exact ⟨_, mv.tr hB, h.new (f' := f) mv hB (OwP.flat hp) fun b hb => ⟨hf b hb, fun h => h.2 hb⟩⟩
end
def obT : Ob := obF (fun _ _ => True) (fun _ _ => trivial)
theorem Hp.addT {B : Nat} {A : Nat → Prop} {w : World} {L : List Ob} (h : Hp B A w L) : Hp B A w (obT :: L) := h.free ⟨rfl, trivial⟩
theorem zfH {P : Program} {n : Fr} {Q : Exit → Act → World → Prop} {E : Env} {w : World} {ι : Type} {x : Code} (N : ι → Fr) (M : ι → Env) (F : ι → World → Prop) (h1 : C P n x (Exit.then (fun a w' => ∃ i, Has (N i) a (M i) ∧ F i w') Q) E w)
  (h2 : ∀ i w', F i w' → ∀ a, Has (N i) a (M i) → Q .normal a w') : C P n x Q E w := by
 intro a ha
 refine wpIn_mono (h1 a ha) ?_
 intro e a' w' hq
 cases e with
 | normal => obtain ⟨i, h, f⟩ := hq; exact h2 i w' f a' h
 | exit id => exact hq
 | goto l => exact hq
 | ret => exact hq
 | panic ch => exact hq
 | outgrown => exact hq
theorem qE {P : Program} {w : World} {b off : Nat} {v : Value} {t : TypeId} (hc : w.cell? ⟨b, off, none⟩ = some v) (ha : ∀ w, (isAgg t).run P w = .ok false w) : (loadVar t ⟨b, off, none⟩).run P w = .ok v w := by
 simp [loadVar, ha, hc]
theorem zih {P : Program} {w : World} {b off : Nat} {cs : List Value} {t : TypeId} (hc : At w b off cs) (ha : ∀ w, (isAgg t).run P w = .ok true w) (hs : ∀ w, (Go.sizeOf t).run P w = .ok cs.length w) : (loadVar t ⟨b, off, none⟩).run P w = .ok (.agg cs.toArray) w := by
 have := zbE (P := P) (w := w) cs b off 0 #[] (fun j u hj => by rw [Nat.zero_add]; exact hc j u hj)
 simp [loadVar, ha, hs, loadCells, this]
def rvar (tmps : Array Value) (r : ResultVar) : Sem Value := match r with | .tmp t => pure (tmps.getD t undef) | .cell a t => do loadVar t (← asAddr (tmps.getD a undef))
theorem zhx (fn : Func) (tmps : Array Value) : results fn tmps = (do
  let vs ← fn.results.mapM (rvar tmps)
  pure (if h : vs.size = 1 then vs[0] else .tuple vs)) := by
 unfold results
 congr 1
def RL (P : Program) (E : Env) (n : Fr) (w : World) (r : ResultVar) (v : Value) : Prop := ∀ a, Has n a E → (rvar a.tmps r).run P w = .ok v w
theorem RL.tmp {P : Program} {E : Env} {n : Fr} {w : World} {t : Nat} {v : Value} (h : E.get t = some v) : RL P E n w (.tmp t) v := fun a ha => by simp only [rvar, ha.getD h]; rfl
theorem RL.cell {P : Program} {E : Env} {n : Fr} {w : World} {c b off : Nat} {t : TypeId} {v : Value} (h : E.get c = some (.pointer (some ⟨b, off, none⟩))) (hl : (loadVar t ⟨b, off, none⟩).run P w = .ok v w) : RL P E n w (.cell c t) v := fun a ha => by
 simp only [rvar, ha.getD h]
 simp [asAddr, hl]
section
variable {P : Program} {n : Fr} {fn : Func} {E : Env} {w : World} {v x y : Value} {r1 r2 r3 : ResultVar}
theorem Res.l2 (hr : fn.results = #[r1, r2]) (h1 : RL P E n w r1 v) (h2 : RL P E n w r2 x) : Res P fn E n w (.tuple #[v, x]) := fun a h => by
 have e1 := h1 a h
 have e2 := h2 a h
 rw [zhx, hr]
 simp [e1, e2]
end
theorem Value.cells_one {v : Value} (h : v.oneCell' = true) : v.cells.toList = [v] := by
 cases v <;> simp_all [Value.cells, Value.oneCell']
end Go.Gw
namespace Go.Gw
open Go Go.RowKit Go.Pu
variable {Dw : Prop}
theorem Hp.freezeC {α : Type} [GoT α] {B i b : Nat} {A : Nat → Prop} {w : World} {L : List Ob} {cs : List Value} {t : TypeId} {x : α} (h : Hp B A w L) (hi : L[i]? = some (obC b cs t)) (hA : ∀ b, w.heap.size ≤ b → A b) (hr : GoT.rep A w cs x) :
  ∃ A1 : Nat → Prop, Tr Dw B A w A1 w ∧ El A1 w b 0 x ∧ Hp B A1 w (L.eraseIdx i) := by
 obtain ⟨h1, h2, h3, h4⟩ := h.cells hi
 obtain ⟨A1, f, ⟨rfl, hp⟩, hf, hs, ht, hh⟩ := h.frz hi hA
 exact ⟨A1, ht, ⟨(hf b (by simp)).1, (hf b (by simp)).2, cs, GoT.keep hr (.sub fun k _ hk => hs k hk), h1⟩, hh⟩
end Go.Gw
