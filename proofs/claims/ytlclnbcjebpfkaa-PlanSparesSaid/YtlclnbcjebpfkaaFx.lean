/-
  More operations: shifts, strings, parts of slices, values of struct type.
-/
import Derived.Test.YtlclnbcjebpfkaaFo
namespace Go.Fw
open Go Go.RowKit Go.Pu
section steps
variable {P : Program} {n : Nat} {ops : Array Oper} {Q : Exit → Act → World → Prop} {E : Env} {w : World} {rest : List Oper} {v u : Value} {d : Nat}
variable {ty t t2 e : TypeId} {pos : String} {af : Array Edge} {x y z : Operand} {A : Nat → Prop} {α : Type} [GoT α] {ρd : Option Nat} {g : Option (Nat × Bool)}
variable {k k2 : IntKind} {p q : Int} {s s2 : ByteArray}

omit [GoT α] in
theorem run_bin2 {op : BinOp} {k2 : IntKind} {u : Value} (h : binOp op t (.int k p) (.int k2 q) = pure u) (hx : ev E x = some (.int k p)) (hy : ev E y = some (.int k2 q)) :
    Y P n E ⟨ρd, .binOp op t x y t2, ty, pos, af, g⟩ w u w := fun a ha => by
  have he : (eqGuard op t x y (.int k p) (.int k2 q)) = pure () := by unfold eqGuard; cases op <;> rfl
  simp only [execOp, ha.eval hx, ha.eval hy, he, h]; rfl
omit [GoT α] in
theorem Y_shl {r : Int} (hr : shl k p q = some r) (hx : ev E x = some (.int k p)) (hy : ev E y = some (.int k2 q)) : Y P n E ⟨ρd, .binOp .shl t x y t2, ty, pos, af, g⟩ w (.int k r) w := by
  unfold shl at hr
  split at hr
  · cases hr
  · rename_i h0
    refine run_bin2 ?_ hx hy
    obtain rfl := Option.some.inj hr
    simp only [binOp, Op.shift, if_neg h0]
omit [GoT α] in
theorem Y_shr {r : Int} (hr : shr k p q = some r) (hx : ev E x = some (.int k p)) (hy : ev E y = some (.int k2 q)) : Y P n E ⟨ρd, .binOp .shr t x y t2, ty, pos, af, g⟩ w (.int k r) w := by
  unfold shr at hr
  split at hr
  · cases hr
  · rename_i h0
    refine run_bin2 ?_ hx hy
    obtain rfl := Option.some.inj hr
    simp only [binOp, Op.shift, if_neg h0]

omit [GoT α] in
theorem run_str {op : BinOp} {u : Value} (h : Op.stringOp op s s2 = pure u) (hop : op = .add ∨ op = .eql ∨ op = .neq ∨ op = .lss ∨ op = .leq ∨ op = .gtr ∨ op = .geq) (hx : ev E x = some (.string s)) (hy : ev E y = some (.string s2)) :
    Y P n E ⟨ρd, .binOp op t x y t2, ty, pos, af, g⟩ w u w := fun a ha => by
  have he : (eqGuard op t x y (.string s) (.string s2)) = pure () := by unfold eqGuard; cases op <;> rfl
  have hb : binOp op t (.string s) (.string s2) = Op.stringOp op s s2 := by
    rcases hop with h | h | h | h | h | h | h <;> subst h <;> rfl
  simp only [execOp, ha.eval hx, ha.eval hy, he, hb, h]; rfl
omit [GoT α] in
theorem Y_seql (hx : ev E x = some (.string s)) (hy : ev E y = some (.string s2)) : Y P n E ⟨ρd, .binOp .eql t x y t2, ty, pos, af, g⟩ w (.bool (strEq s s2)) w := run_str rfl (by simp) hx hy
omit [GoT α] in
theorem Y_sneq (hx : ev E x = some (.string s)) (hy : ev E y = some (.string s2)) : Y P n E ⟨ρd, .binOp .neq t x y t2, ty, pos, af, g⟩ w (.bool (!(strEq s s2))) w := run_str rfl (by simp) hx hy
omit [GoT α] in
theorem Y_slss (hx : ev E x = some (.string s)) (hy : ev E y = some (.string s2)) : Y P n E ⟨ρd, .binOp .lss t x y t2, ty, pos, af, g⟩ w (.bool (strLt s s2)) w := run_str rfl (by simp) hx hy
omit [GoT α] in
theorem Y_sleq (hx : ev E x = some (.string s)) (hy : ev E y = some (.string s2)) : Y P n E ⟨ρd, .binOp .leq t x y t2, ty, pos, af, g⟩ w (.bool (strLt s s2 || strEq s s2)) w := run_str rfl (by simp) hx hy
omit [GoT α] in
theorem Y_sgtr (hx : ev E x = some (.string s)) (hy : ev E y = some (.string s2)) : Y P n E ⟨ρd, .binOp .gtr t x y t2, ty, pos, af, g⟩ w (.bool (!(strLt s s2 || strEq s s2))) w := run_str rfl (by simp) hx hy
omit [GoT α] in
theorem Y_sgeq (hx : ev E x = some (.string s)) (hy : ev E y = some (.string s2)) : Y P n E ⟨ρd, .binOp .geq t x y t2, ty, pos, af, g⟩ w (.bool (!(strLt s s2))) w := run_str rfl (by simp) hx hy
omit [GoT α] in
theorem Y_sadd {r : ByteArray} (hr : catS s s2 = some r) (hx : ev E x = some (.string s)) (hy : ev E y = some (.string s2)) : Y P n E ⟨ρd, .binOp .add t x y t2, ty, pos, af, g⟩ w (.string r) w := by
  unfold catS at hr
  split at hr
  · cases hr
  · rename_i h0
    obtain rfl := Option.some.inj hr
    refine run_str ?_ (by simp) hx hy
    simp only [Op.stringOp, if_neg h0]
omit [GoT α] in
theorem Y_indexS {r : UInt8} (hr : idxS s q = some r) (ht : P.underlying t = some .string) (hx : ev E x = some (.string s)) (hy : ev E y = some (.int k q)) : Y P n E ⟨ρd, .index t x y, ty, pos, af, g⟩ w (.int .u8 (r.toNat : Int)) w := fun a hA => by
  unfold idxS at hr
  simp only [execOp, hA.eval hx, hA.eval hy, Instr.index, asIntOf]
  simp [underlying, ht, hr]
omit [GoT α] in
theorem Y_convI {ts : TypeId} {du : TypeDesc} (hs : P.underlying ts = some du) (hd : P.underlying t = some (.int k2)) (hx : ev E x = some (.int k p)) : Y P n E ⟨ρd, .convert ts t x, ty, pos, af, g⟩ w (.int k2 (k2.wrap p)) w := fun a hA => by
  simp only [execOp, hA.eval hx, convert]
  simp [underlying, hs, hd, Conv.intToInt]
omit [GoT α] in
theorem Y_convS {ts : TypeId} {du : TypeDesc} (hs : P.underlying ts = some du) (hd : P.underlying t = some .string) (hx : ev E x = some (.string s)) : Y P n E ⟨ρd, .convert ts t x, ty, pos, af, g⟩ w (.string s) w := fun a hA => by
  simp only [execOp, hA.eval hx, convert]
  simp [underlying, hs, hd]
omit [GoT α] in
theorem Y_build {fs : Array Field} {zv : Value} {parts : Array (Nat × Operand)} {places : Array (Nat × Nat)} {vs : List Value} {cells : Array Value} (ht : P.underlying t = some (.struct fs)) (hz : ∀ w, (zeroValue t).run P w = .ok zv w)
    (hp : ∀ w, (Array.mapM (fun (f : Field) => do pure (f.offset, ← Go.sizeOf f.type)) fs).run P w = .ok places w) (hv : evs E (parts.toList.map (·.2)) = some vs)
    (hf : Instr.fill (places[·]?) zv.cells ((parts.toList.map (·.1)).zip vs) = some cells) : Y P n E ⟨ρd, .build t parts, ty, pos, af, g⟩ w (.agg cells) w := fun a hA => by
  have hq : (parts.map fun (i, x) => (i, a.eval x)).toList = (parts.toList.map (·.1)).zip vs := by
    rw [← hA.evals hv]
    simp only [Array.toList_map]
    generalize parts.toList = ps
    induction ps with
    | nil => rfl
    | cons p r ih => obtain ⟨i, x⟩ := p; simp [ih]
  simp only [execOp, Instr.build]
  rw [hq]
  have h2 := hp w
  simp at h2
  simp [underlying, ht, hz, h2, hf]
omit [GoT α] in
theorem Y_pickI {b : Bool} (hx : ev E x = some (.bool b)) (hy : ev E y = some (.int k p)) (hz : ev E z = some (.int k q)) : Y P n E ⟨ρd, .pick x y z, ty, pos, af, g⟩ w (.int k (if b = true then p else q)) w := by
  have := Y_pick (P := P) (n := n) (ρd := ρd) (ty := ty) (pos := pos) (af := af) (g := g) (w := w) hx hy hz
  cases b <;> exact this
omit [GoT α] in
theorem Y_pickB {b b1 b2 : Bool} (hx : ev E x = some (.bool b)) (hy : ev E y = some (.bool b1)) (hz : ev E z = some (.bool b2)) : Y P n E ⟨ρd, .pick x y z, ty, pos, af, g⟩ w (.bool (if b = true then b1 else b2)) w := by
  have := Y_pick (P := P) (n := n) (ρd := ρd) (ty := ty) (pos := pos) (af := af) (g := g) (w := w) hx hy hz
  cases b <;> exact this
omit [GoT α] in
theorem Y_pickS {b : Bool} (hx : ev E x = some (.bool b)) (hy : ev E y = some (.string s)) (hz : ev E z = some (.string s2)) : Y P n E ⟨ρd, .pick x y z, ty, pos, af, g⟩ w (.string (if b = true then s else s2)) w := by
  have := Y_pick (P := P) (n := n) (ρd := ρd) (ty := ty) (pos := pos) (af := af) (g := g) (w := w) hx hy hz
  cases b <;> exact this
theorem Sl.split {l : List α} (h : Sl A w v l) : (v = .slice none 0 0 ∧ l = []) ∨ ∃ a m c, v = .slice (some a) m c := by
  rcases h with ⟨a, cap, rfl, hl, _, hc⟩ | ⟨b, off, cap, cs, rfl, _⟩
  · cases a with
    | none => exact .inl ⟨by rw [hc rfl], hl⟩
    | some a => exact .inr ⟨_, _, _, rfl⟩
  · exact .inr ⟨_, _, _, rfl⟩
omit [GoT α] in
theorem Y_eqlNilT (hx : ev E x = some (.slice none 0 0)) (hy : ev E y = some (.slice none 0 0)) (ht : P.underlying t = some (.slice e)) : Y P n E ⟨ρd, .binOp .eql t x y t2, ty, pos, af, g⟩ w (.bool true) w := fun a hA => by
  obtain ⟨dp, hd⟩ : ∃ dp, Op.maxDepth = dp + 1 := ⟨_, rfl⟩
  simp only [execOp, hA.eval hx, hA.eval hy]
  simp [eqGuard, binOp, Op.equal, hd, Op.equalIn, underlying, ht]
omit [GoT α] in
theorem Y_eqlNilF {a0 : Addr} {n0 c0 : Nat} (hx : ev E x = some (.slice (some a0) n0 c0)) (hy : ev E y = some (.slice none 0 0)) (ht : P.underlying t = some (.slice e)) : Y P n E ⟨ρd, .binOp .eql t x y t2, ty, pos, af, g⟩ w (.bool false) w := fun a hA => by
  obtain ⟨dp, hd⟩ : ∃ dp, Op.maxDepth = dp + 1 := ⟨_, rfl⟩
  simp only [execOp, hA.eval hx, hA.eval hy]
  simp [eqGuard, binOp, Op.equal, hd, Op.equalIn, underlying, ht]
/-- []T{} -/
theorem V_buildOwn0 {B : Nat} (ht : P.underlying t = some (.slice e)) (hs : ∀ w, (Go.sizeOf e).run P w = .ok (GoT.cells α) w) (hB : B ≤ w.heap.size) (hA : ∀ b, w.heap.size ≤ b → A b) (hn : Nat.blt d n = true)
    (h : ∀ v w1 A1, Ow e B A1 w1 v ([] : List α) → Mv B A w A1 w1 none → (∀ g, v.ownBlock = some g → w.heap.size ≤ g) → V P n ops Q rest ((d, v) :: E) w1) :
    V P n ops Q (⟨some d, .buildSlice t 0 #[], ty, pos, af, none⟩ :: rest) E w := by
  have hk := Kp.alloc w (.cells #[] e)
  have hmv : Mv B A w (fun b => A b ∧ b ≠ w.heap.size) (w.alloc (.cells #[] e)) none :=
    ⟨hk.os, hk.tape, hk.output, hk.size, fun k h _ => hk.block k h, (fun k h => by cases h), fun k h => h.1, fun k hk ha => ⟨ha, by omega⟩, fun b hb => ⟨hA b (Nat.le_trans hk.size hb), by
      have : w.heap.size < (w.alloc (.cells #[] e)).heap.size := (Array.getElem?_eq_some_iff.1 (heap_alloc_new w (.cells #[] e))).1
      omega⟩⟩
  refine V_y (w' := w.alloc (.cells #[] e)) (v := .slice (some ⟨w.heap.size, 0, none⟩) 0 0) (fun a hA' => ?_) rfl rfl hn (h _ _ _ (.inr ⟨w.heap.size, 0, #[], [], rfl, hB, fun h => h.2 rfl, heap_alloc_new w _, Nat.le_refl _, Nat.zero_le _, by simp, rfl, by simp⟩) hmv ?_)
  · simp only [execOp, Instr.buildSlice]
    simp [underlying, ht, hs, Instr.fill, newRow]
    rw [show Array.range 0 = #[] from by with_unfolding_all rfl]
    simp
  · intro g hg
    simp [Value.ownBlock] at hg
    omega
/-- an own slice is from now on only read -/
theorem Ow.freeze {B : Nat} {l : List α} (h : Ow e B A w v l) (hA : ∀ b, w.heap.size ≤ b → A b) :
    ∃ A1 : Nat → Prop, Tr B A w A1 w ∧ Sl A1 w v l ∧ ∀ (β : Type) (_ : GoT β) (e2 : TypeId) (u : Value) (m : List β), Ow e2 B A w u m → Dj u v.ownBlock → Ow e2 B A1 w u m := by
  refine ⟨fun k => A k ∨ v.ownBlock = some k, ⟨⟨Nat.le_refl _, fun _ _ h => ⟨.inl h, rfl⟩⟩, Below.refl _ _, ?_, fun b hb => .inl (hA b hb)⟩, h.sl (fun _ h => .inl h) (fun _ h => .inr h), ?_⟩
  · rintro k (h1 | h1)
    · exact .inl h1
    · obtain ⟨xs, hr, _⟩ := h.row
      exact .inr (hr.lt k h1).1
  · intro β _ e2 u m ho hd
    rcases ho with h | ⟨g, cap, cur, cs, rfl, h2, h3, h4, h5, h6, h7, h8, h9⟩
    · exact .inl h
    · exact .inr ⟨g, cap, cur, cs, rfl, h2, fun h => h.elim h3 (fun h => hd g rfl h.symm), h4, h5, h6, h7, h8.keep (.sub fun k _ hk => .inl hk), h9⟩
theorem Ow.lower {B B2 : Nat} {l : List α} (h : Ow e B2 A w v l) (hB : B ≤ B2) : Ow e B A w v l := by
  rcases h with h | ⟨g, cap, cur, cs, rfl, h2, h3⟩
  · exact .inl h
  · exact .inr ⟨g, cap, cur, cs, rfl, Nat.le_trans hB h2, h3⟩
theorem Ow.base {B : Nat} {l : List α} (h : Ow e B A w v l) : ∀ g, v.ownBlock = some g → B ≤ g := by
  intro g hg
  obtain ⟨xs, hr, _⟩ := h.row
  exact (hr.lt g hg).1
theorem Ow.over {B : Nat} {A1 : Nat → Prop} {w1 : World} {l : List α} (h : Ow e B A w v l) (t : Tr w.heap.size A w A1 w1) : Ow e B A1 w1 v l := by
  rcases h with h | ⟨g, cap, cur, cs, rfl, h2, h3, h4, h5, h6, h7, h8, h9⟩
  · exact .inl h
  · have hlt := (Array.getElem?_eq_some_iff.1 h4).1
    exact .inr ⟨g, cap, cur, cs, rfl, h2, fun h => (t.sub g h).elim h3 (fun h' => by omega), by rw [t.below.block g hlt]; exact h4, h5, h6, h7, h8.keep t.ex, h9⟩
omit [GoT α] in
theorem Tr.lower {B B2 : Nat} {A1 : Nat → Prop} {w1 : World} (t : Tr B2 A w A1 w1) (hB : B ≤ B2) : Tr B A w A1 w1 :=
  ⟨t.ex, Below.mono t.below hB, fun k h => (t.sub k h).imp id (Nat.le_trans hB), t.new⟩
end steps
end Go.Fw
