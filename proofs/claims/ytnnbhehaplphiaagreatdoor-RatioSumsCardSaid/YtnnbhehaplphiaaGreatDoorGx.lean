/-
  More operations: shifts, strings, parts of slices, values of struct type.
-/
import Derived.Test.YtnnbhehaplphiaaGreatDoorGn
namespace Go.Gw
open Go Go.RowKit Go.Pu
variable {Dw : Prop}
set_option linter.unusedSimpArgs false
set_option linter.unusedVariables false
section steps
variable {P : Program} {n : Fr} {ops : Array Oper} {Q : Exit → Act → World → Prop} {E : Env} {w : World} {rest : List Oper} {v u : Value} {d : Nat}
variable {ty t t2 e : TypeId} {pos : String} {af : Array Edge} {x y z : Operand} {A : Nat → Prop} {α : Type} [GoT α] {ρd : Option Nat} {g : Option (Nat × Bool)}
variable {k k2 : IntKind} {p q : Int} {s s2 : ByteArray}

omit [GoT α] in
theorem run_bin2 {op : BinOp} {k2 : IntKind} {u : Value} (h : binOp op t (.int k p) (.int k2 q) = pure u) (hx : ev E x = some (.int k p)) (hy : ev E y = some (.int k2 q)) :
    Y P n E ⟨ρd, .binOp op t x y t2, ty, pos, af, g⟩ w u w := fun a ha => by
  have he : (eqGuard op t x y (.int k p) (.int k2 q)) = pure () := by unfold eqGuard; cases op <;> rfl
  simp only [execOp, ha.eval hx, ha.eval hy, he, h]; rfl
omit [GoT α] in
theorem Y_shl {r : Int} (hr : shl k p q = some r) (hx : ev E x = some (.int k p)) (hy : ev E y = some (.int k2 q)) : Y P n E ⟨ρd, .binOp .shl t x y t2, ty, pos, af, g⟩ w (.int k r) w := by
  unfold shl at hr
  split at hr
  · cases hr
  · rename_i h0
    refine run_bin2 ?_ hx hy
    obtain rfl := Option.some.inj hr
    simp only [binOp, Op.shift, if_neg h0]
omit [GoT α] in
theorem Y_shr {r : Int} (hr : shr k p q = some r) (hx : ev E x = some (.int k p)) (hy : ev E y = some (.int k2 q)) : Y P n E ⟨ρd, .binOp .shr t x y t2, ty, pos, af, g⟩ w (.int k r) w := by
  unfold shr at hr
  split at hr
  · cases hr
  · rename_i h0
    refine run_bin2 ?_ hx hy
    obtain rfl := Option.some.inj hr
    simp only [binOp, Op.shift, if_neg h0]

omit [GoT α] in
theorem run_str {op : BinOp} {u : Value} (h : Op.stringOp op s s2 = pure u) (hop : op = .add ∨ op = .eql ∨ op = .neq ∨ op = .lss ∨ op = .leq ∨ op = .gtr ∨ op = .geq) (hx : ev E x = some (.string s)) (hy : ev E y = some (.string s2)) :
    Y P n E ⟨ρd, .binOp op t x y t2, ty, pos, af, g⟩ w u w := fun a ha => by
  have he : (eqGuard op t x y (.string s) (.string s2)) = pure () := by unfold eqGuard; cases op <;> rfl
  have hb : binOp op t (.string s) (.string s2) = Op.stringOp op s s2 := by
    rcases hop with h | h | h | h | h | h | h <;> subst h <;> rfl
  simp only [execOp, ha.eval hx, ha.eval hy, he, hb, h]; rfl
omit [GoT α] in
theorem Y_seql (hx : ev E x = some (.string s)) (hy : ev E y = some (.string s2)) : Y P n E ⟨ρd, .binOp .eql t x y t2, ty, pos, af, g⟩ w (.bool (strEq s s2)) w := run_str rfl (by simp) hx hy
omit [GoT α] in
theorem Y_sneq (hx : ev E x = some (.string s)) (hy : ev E y = some (.string s2)) : Y P n E ⟨ρd, .binOp .neq t x y t2, ty, pos, af, g⟩ w (.bool (!(strEq s s2))) w := run_str rfl (by simp) hx hy
omit [GoT α] in
theorem Y_indexS {r : UInt8} (hr : idxS s q = some r) (ht : P.underlying t = some .string) (hx : ev E x = some (.string s)) (hy : ev E y = some (.int k q)) : Y P n E ⟨ρd, .index t x y, ty, pos, af, g⟩ w (.int .u8 (r.toNat : Int)) w := fun a hA => by
  unfold idxS at hr
  simp only [execOp, hA.eval hx, hA.eval hy, Instr.index, asIntOf]
  simp [underlying, ht, hr]
omit [GoT α] in
theorem Y_convI {ts : TypeId} {du : TypeDesc} (hs : P.underlying ts = some du) (hd : P.underlying t = some (.int k2)) (hx : ev E x = some (.int k p)) : Y P n E ⟨ρd, .convert ts t x, ty, pos, af, g⟩ w (.int k2 (k2.wrap p)) w := fun a hA => by
  simp only [execOp, hA.eval hx, convert]
  simp [underlying, hs, hd, Conv.intToInt]
omit [GoT α] in
theorem Y_build {fs : Array Field} {zv : Value} {parts : Array (Nat × Operand)} {places : Array (Nat × Nat)} {vs : List Value} {cells : Array Value} (ht : P.underlying t = some (.struct fs)) (hz : ∀ w, (zeroValue t).run P w = .ok zv w)
    (hp : ∀ w, (Array.mapM (fun (f : Field) => do pure (f.offset, ← Go.sizeOf f.type)) fs).run P w = .ok places w) (hv : evs E (parts.toList.map (·.2)) = some vs)
    (hf : Instr.fill (places[·]?) zv.cells ((parts.toList.map (·.1)).zip vs) = some cells) : Y P n E ⟨ρd, .build t parts, ty, pos, af, g⟩ w (.agg cells) w := fun a hA => by
  have hq : (parts.map fun (i, x) => (i, a.eval x)).toList = (parts.toList.map (·.1)).zip vs := by
    rw [← hA.evals hv]
    simp only [Array.toList_map]
    generalize parts.toList = ps
    induction ps with
    | nil => rfl
    | cons p r ih => obtain ⟨i, x⟩ := p; simp [ih]
  simp only [execOp, Instr.build]
  rw [hq]
  have h2 := hp w
  simp at h2
  simp [underlying, ht, hz, h2, hf]
/-- []T{..} as a slice of the call's own -/
theorem V_buildOwn {B : Nat} {l : List α} {len : Nat} {parts : Array (Nat × Operand)} {zv : Value} {vs : List Value} {cells : Array Value} (ht : P.underlying t = some (.slice e)) (hs : ∀ w, (Go.sizeOf e).run P w = .ok (GoT.cells α) w) (hz : ∀ w, (zeroValue e).run P w = .ok zv w)
    (hv : evs E (parts.toList.map (·.2)) = some vs)
    (hf : Instr.fill (fun i => some (i * GoT.cells α, GoT.cells α)) ((Array.range (len * GoT.cells α)).map (zv.cells[· % zv.cells.size]!)) ((parts.toList.map (·.1)).zip vs) = some cells)
    (h0 : len * GoT.cells α ≠ 0) (hle : len * GoT.cells α ≤ 2 ^ 24) (hB : B ≤ w.heap.size) (hA : ∀ b, w.heap.size ≤ b → A b) (hr : repL A w cells.toList l) (hlen : l.length = len) (hn : Nat.blt d n.sz = true)
    (h : ∀ v w1 A1, Ow e B A1 w1 v l → Mv Dw B A w A1 w1 none → (∀ g, v.ownBlock = some g → w.heap.size ≤ g) → V P n ops Q rest ((d, v) :: E) w1) :
    V P n ops Q (⟨some d, .buildSlice t len parts, ty, pos, af, none⟩ :: rest) E w := by
  have hk := Kp.alloc (Dw := Dw) w (.cells cells e)
  have hmv : Mv Dw B A w (fun b => A b ∧ b ≠ w.heap.size) (w.alloc (.cells cells e)) none :=
    ⟨hk.os, hk.tape, hk.output, hk.size, hk.dr, fun k h _ => hk.block k h, (fun k h => by cases h), fun k h => h.1, fun k hk ha => ⟨ha, by omega⟩, fun b hb => ⟨hA b (Nat.le_trans hk.size hb), by
      have : w.heap.size < (w.alloc (.cells cells e)).heap.size := (Array.getElem?_eq_some_iff.1 (heap_alloc_new w (.cells cells e))).1
      omega⟩⟩
  have hlen2 : l.length ≤ maxLen := by
    have h1 : 1 ≤ GoT.cells α := Nat.one_le_iff_ne_zero.2 fun h => h0 (by rw [h, Nat.mul_zero])
    have h2 : len ≤ len * GoT.cells α := Nat.le_mul_of_pos_right _ h1
    rw [hlen]
    exact Nat.le_trans (Nat.le_trans h2 hle) (by decide)
  subst hlen
  refine V_y (w' := w.alloc (.cells cells e)) (v := .slice (some ⟨w.heap.size, 0, none⟩) l.length l.length) (fun a hA' => ?_) rfl rfl hn (h _ _ _ (.inr ⟨w.heap.size, l.length, cells, cells.toList, rfl, hB, fun h => h.2 rfl, heap_alloc_new w _, Nat.le_refl _, hlen2, by have := hr.len; simpa using this, hr.keep hmv.ex, List.take_of_length_le (by have := hr.len; simp at this ⊢; omega)⟩) hmv ?_)
  · have hp : (parts.map fun (i, x) => (i, a.eval x)).toList = (parts.toList.map (·.1)).zip vs := by
      rw [← hA'.evals hv]
      simp only [Array.toList_map]
      generalize parts.toList = ps
      induction ps with
      | nil => rfl
      | cons p r ih => obtain ⟨i, x⟩ := p; simp [ih]
    simp only [execOp, Instr.buildSlice]
    rw [hp]
    simp [underlying, ht, hs, hz, h0, Nat.not_lt.2 hle, hf, newRow]
  · intro g hg
    simp [Value.ownBlock] at hg
    omega
end steps
end Go.Gw
