import Derived.Test.YtiblagcmjobknaaGreatDoorGw
namespace Go.Gw
open Go Go.RowKit Go.Pu
set_option linter.unusedSimpArgs false
set_option linter.unusedVariables false
structure Ex (A : Nat → Prop) (w : World) (A' : Nat → Prop) (w' : World) : Prop where
 size : w.heap.size ≤ w'.heap.size
 block : ∀ k, k < w.heap.size → A k → A' k ∧ w'.heap[k]? = w.heap[k]?
variable {Dw : Prop}
theorem Kp.refl (w : World) : Kp Dw w w := Bel.refl _ _
theorem Kp.trans {a b c : World} (h : Kp Dw a b) (k : Kp Dw b c) : Kp Dw a c := Bel.trans h (Bel.mono k h.size)
theorem Kp.alloc (w : World) (o : Obj) : Kp Dw w (w.alloc o) := ⟨rfl, rfl, rfl, by simp, fun _ => Nat.le_refl _, fun k hk => Below.heap_alloc _ _ _ hk⟩
theorem Kp.drew (w : World) : Kp Dw w w.drew := ⟨rfl, rfl, rfl, Nat.le_refl _, fun _ => Nat.le_succ _, fun _ _ => rfl⟩
theorem Ex.kp {A : Nat → Prop} {w w' : World} (h : Kp Dw w w') : Ex A w A w' := ⟨h.size, fun k hk ha => ⟨ha, h.block k hk⟩⟩
theorem Ex.sub {A A' : Nat → Prop} {w : World} (h : ∀ k, k < w.heap.size → A k → A' k) : Ex A w A' w := ⟨Nat.le_refl _, fun k hk ha => ⟨h k hk ha, rfl⟩⟩
theorem Ex.any {A : Nat → Prop} {w : World} : Ex A w (fun _ => True) w := .sub fun _ _ _ => trivial
theorem zdH (b off j : Nat) : (⟨b, off, none⟩ : Addr).add j = ⟨b, off + j, none⟩ := by unfold Addr.add; split <;> simp_all
def At (w : World) (b off : Nat) (cs : List Value) : Prop := ∀ j u, cs[j]? = some u → w.cell? ⟨b, off + j, none⟩ = some u
theorem At.left {w : World} {b off : Nat} {c1 c2 : List Value} (h : At w b off (c1 ++ c2)) : At w b off c1 := fun j u hj => h j u (by
 rw [List.getElem?_append_left]
 ·exact hj
 ·exact (List.getElem?_eq_some_iff.1 hj).1)
theorem At.right {w : World} {b off : Nat} {c1 c2 : List Value} (h : At w b off (c1 ++ c2)) : At w b (off + c1.length) c2 := fun j u hj => by
 rw [Nat.add_assoc]
 exact h (c1.length + j) u (by rw [List.getElem?_append_right (by omega)]; simpa using hj)
theorem At.same {w w' : World} {b off : Nat} {cs : List Value} (h : At w b off cs) (hb : w'.heap[b]? = w.heap[b]?) : At w' b off cs := fun j u hj => by
 rw [World.cell?_of_block (a := ⟨b, off + j, none⟩) hb]
 exact h j u hj
class GoT (α : Type) where
 cells : Nat
 wf : α → Prop
 rep : (Nat → Prop) → World → List Value → α → Prop
 len : ∀ {A w cs x}, rep A w cs x → cs.length = cells
 one : ∀ {A w cs x}, rep A w cs x → ∀ u ∈ cs, u.oneCell' = true
 keep : ∀ {A w A' w' cs x}, rep A w cs x → Ex A w A' w' → rep A' w' cs x
def repL {α : Type} [GoT α] (A : Nat → Prop) (w : World) : List Value → List α → Prop
 | cs, [] => cs = []
 | cs, x :: r => ∃ c1 c2, cs = c1 ++ c2 ∧ GoT.rep A w c1 x ∧ repL A w c2 r
section
variable {α : Type} [GoT α] {A A' : Nat → Prop} {w w' : World}
theorem repL.len {cs : List Value} {l : List α} (h : repL A w cs l) : cs.length = l.length * GoT.cells α := by
 induction l generalizing cs with
 | nil => rw [repL] at h; subst h; simp
 | cons x r ih =>
  rw [repL] at h
  obtain ⟨c1, c2, rfl, h1, h2⟩ := h
  rw [List.length_append, GoT.len h1, ih h2, List.length_cons, Nat.succ_mul, Nat.add_comm]
theorem repL.one {cs : List Value} {l : List α} (h : repL A w cs l) : ∀ u ∈ cs, u.oneCell' = true := by
 induction l generalizing cs with
 | nil => rw [repL] at h; subst h; simp
 | cons x r ih =>
  rw [repL] at h
  obtain ⟨c1, c2, rfl, h1, h2⟩ := h
  intro u hu
  rcases List.mem_append.1 hu with hu | hu
  ·exact GoT.one h1 u hu
  ·exact ih h2 u hu
theorem repL.keep {cs : List Value} {l : List α} (h : repL A w cs l) (he : Ex A w A' w') : repL A' w' cs l := by
 induction l generalizing cs with
 | nil => exact h
 | cons x r ih =>
  rw [repL] at h ⊢
  obtain ⟨c1, c2, rfl, h1, h2⟩ := h
  exact ⟨c1, c2, rfl, GoT.keep h1 he, ih h2⟩
theorem repL.at {cs : List Value} {l : List α} {i : Nat} {x : α} (h : repL A w cs l) (hi : l[i]? = some x) : ∃ c1 c2 c3, cs = c1 ++ (c2 ++ c3) ∧ c1.length = i * GoT.cells α ∧ GoT.rep A w c2 x := by
 induction l generalizing cs i with
 | nil => simp at hi
 | cons y r ih =>
  rw [repL] at h
  obtain ⟨c1, c2, rfl, h1, h2⟩ := h
  cases i with
  | zero =>
   simp at hi
   subst hi
   exact ⟨[], c1, c2, by simp, by simp, h1⟩
  | succ i =>
   simp at hi
   obtain ⟨d1, d2, d3, rfl, hl, hr⟩ := ih h2 hi
   exact ⟨c1 ++ d1, d2, d3, by simp, by rw [List.length_append, GoT.len h1, hl, Nat.succ_mul, Nat.add_comm], hr⟩
theorem repL.append {c1 c2 : List Value} {l m : List α} (h1 : repL A w c1 l) (h2 : repL A w c2 m) : repL A w (c1 ++ c2) (l ++ m) := by
 induction l generalizing c1 with
 | nil => rw [repL] at h1; subst h1; exact h2
 | cons x r ih =>
  rw [repL] at h1
  obtain ⟨d1, d2, rfl, g1, g2⟩ := h1
  rw [List.cons_append, repL]
  exact ⟨d1, d2 ++ c2, by simp, g1, ih g2⟩
theorem repL.single {cs : List Value} {x : α} (h : GoT.rep A w cs x) : repL A w cs [x] := ⟨cs, [], by simp, h, rfl⟩
end
def Sl {α : Type} [GoT α] (A : Nat → Prop) (w : World) (v : Value) (l : List α) : Prop :=
 (∃ a cap, v = .slice a 0 cap ∧ l = [] ∧ cap ≤ maxLen ∧ (a = none → cap = 0)) ∨
 ∃ b off cap cs, v = .slice (some ⟨b, off, none⟩) l.length cap ∧ A b ∧ b < w.heap.size ∧ l.length ≤ cap ∧ cap ≤ maxLen ∧ repL A w cs l ∧ At w b off cs
def El {α : Type} [GoT α] (A : Nat → Prop) (w : World) (b off : Nat) (x : α) : Prop :=
 A b ∧ b < w.heap.size ∧ ∃ cs, GoT.rep A w cs x ∧ At w b off cs
section
variable {α : Type} [GoT α] {A A' : Nat → Prop} {w w' : World}
theorem Sl.keep {v : Value} {l : List α} (h : Sl A w v l) (he : Ex A w A' w') : Sl A' w' v l := by
 rcases h with h | ⟨b, off, cap, cs, h1, h2, h3, h4, h5, h6, h7⟩
 ·exact .inl h
 ·exact .inr ⟨b, off, cap, cs, h1, (he.block b h3 h2).1, Nat.lt_of_lt_of_le h3 he.size, h4, h5, h6.keep he, h7.same (he.block b h3 h2).2⟩
theorem Sl.kp {v : Value} {l : List α} (h : Sl A w v l) (he : Kp Dw w w') : Sl A w' v l := h.keep (.kp he)
theorem Sl.any {v : Value} {l : List α} (h : Sl A w v l) : Sl (fun _ => True) w v l := h.keep .any
theorem Sl.nil : Sl A w (.slice none 0 0) ([] : List α) := .inl ⟨none, 0, rfl, rfl, by simp, fun _ => rfl⟩
theorem Sl.form {v : Value} {l : List α} (h : Sl A w v l) : ∃ a cap, v = .slice a l.length cap ∧ l.length ≤ maxLen := by
 rcases h with ⟨a, c, rfl, rfl, _, _⟩ | ⟨b, off, cap, cs, h1, h2, h3, h4, h5, h6, h7⟩
 ·exact ⟨a, c, rfl, by simp⟩
 ·exact ⟨_, _, h1, by omega⟩
theorem Sl.le {v : Value} {l : List α} (h : Sl A w v l) : l.length ≤ maxLen := let ⟨_, _, _, h⟩ := h.form; h
theorem El.keep {b off : Nat} {x : α} (h : El A w b off x) (he : Ex A w A' w') : El A' w' b off x := by
 obtain ⟨h1, h2, cs, h3, h4⟩ := h
 exact ⟨(he.block b h2 h1).1, Nat.lt_of_lt_of_le h2 he.size, cs, GoT.keep h3 he, h4.same (he.block b h2 h1).2⟩
theorem El.kp {b off : Nat} {x : α} (h : El A w b off x) (he : Kp Dw w w') : El A w' b off x := h.keep (.kp he)
end
instance : GoT Int where
 cells := 1
 wf x := -9223372036854775808 ≤ x ∧ x ≤ 9223372036854775807
 rep _ _ cs x := cs = [.int .i64 x]
 len h := by subst h; rfl
 one h := by subst h; simp [Value.oneCell']
 keep h _ := h
instance : GoT Bool where
 cells := 1
 wf _ := True
 rep _ _ cs x := cs = [.bool x]
 len h := by subst h; rfl
 one h := by subst h; simp [Value.oneCell']
 keep h _ := h
instance : GoT ByteArray where
 cells := 1
 wf s := s.size ≤ maxLen
 rep _ _ cs x := cs = [.string x]
 len h := by subst h; rfl
 one h := by subst h; simp [Value.oneCell']
 keep h _ := h
instance : GoT UInt8 where
 cells := 1
 wf _ := True
 rep _ _ cs x := cs = [.int .u8 x.toNat]
 len h := by subst h; rfl
 one h := by subst h; simp [Value.oneCell']
 keep h _ := h
instance : GoT UInt32 where
 cells := 1
 wf _ := True
 rep _ _ cs x := cs = [.int .u32 x.toNat]
 len h := by subst h; rfl
 one h := by subst h; simp [Value.oneCell']
 keep h _ := h
instance {α β : Type} [GoT α] [GoT β] : GoT (α × β) where
 cells := GoT.cells α + GoT.cells β
 wf p := GoT.wf p.1 ∧ GoT.wf p.2
 rep A w cs x := ∃ c1 c2, cs = c1 ++ c2 ∧ GoT.rep A w c1 x.1 ∧ GoT.rep A w c2 x.2
 len h := by obtain ⟨c1, c2, rfl, h1, h2⟩ := h; rw [List.length_append, GoT.len h1, GoT.len h2]
 one h := by
  obtain ⟨c1, c2, rfl, h1, h2⟩ := h
  intro u hu
  rcases List.mem_append.1 hu with hu | hu
  ·exact GoT.one h1 u hu
  ·exact GoT.one h2 u hu
 keep h he := by obtain ⟨c1, c2, rfl, h1, h2⟩ := h; exact ⟨c1, c2, rfl, GoT.keep h1 he, GoT.keep h2 he⟩
instance {α : Type} [GoT α] : GoT (List α) where
 cells := 1
 wf l := l.length ≤ maxLen ∧ ∀ x ∈ l, GoT.wf x
 rep A w cs l := ∃ v, cs = [v] ∧ Sl A w v l
 len h := by obtain ⟨v, rfl, _⟩ := h; rfl
 one h := by
  obtain ⟨v, rfl, h⟩ := h
  obtain ⟨a, cap, rfl, _⟩ := h.form
  simp [Value.oneCell']
 keep h he := by obtain ⟨v, rfl, h⟩ := h; exact ⟨v, rfl, h.keep he⟩
@[reducible] def GoT.of {α β : Type} [GoT β] (f : α → β) : GoT α where
 cells := GoT.cells β
 wf x := GoT.wf (f x)
 rep A w cs x := GoT.rep A w cs (f x)
 len h := GoT.len h
 one h := GoT.one h
 keep h he := GoT.keep h he
section
variable {α β : Type} [GoT α] [GoT β] {A : Nat → Prop} {w : World} {b off : Nat}
theorem El.fst {x : α} {y : β} (h : El A w b off (x, y)) : El A w b off x := by
 obtain ⟨h1, h2, cs, ⟨c1, c2, rfl, h3, h4⟩, h5⟩ := h
 exact ⟨h1, h2, c1, h3, h5.left⟩
theorem El.snd {x : α} {y : β} (h : El A w b off (x, y)) : El A w b (off + GoT.cells α) y := by
 obtain ⟨h1, h2, cs, ⟨c1, c2, rfl, h3, h4⟩, h5⟩ := h
 refine ⟨h1, h2, c2, h4, ?_⟩
 rw [← GoT.len h3]
 exact h5.right
theorem El.cell {v : Value} {x : α} (h : El A w b off x) (hv : ∀ cs, GoT.rep A w cs x → cs = [v]) : w.cell? ⟨b, off, none⟩ = some v := by
 obtain ⟨h1, h2, cs, h3, h4⟩ := h
 have := hv cs h3
 subst this
 exact h4 0 v rfl
theorem El.int {x : Int} (h : El A w b off x) : w.cell? ⟨b, off, none⟩ = some (.int .i64 x) := h.cell fun _ h => h
theorem El.bool {x : Bool} (h : El A w b off x) : w.cell? ⟨b, off, none⟩ = some (.bool x) := h.cell fun _ h => h
theorem El.str {x : ByteArray} (h : El A w b off x) : w.cell? ⟨b, off, none⟩ = some (.string x) := h.cell fun _ h => h
theorem El.list {x : List α} (h : El A w b off x) : ∃ v, w.cell? ⟨b, off, none⟩ = some v ∧ Sl A w v x := by
 obtain ⟨h1, h2, cs, ⟨v, rfl, h3⟩, h4⟩ := h
 exact ⟨v, h4 0 v rfl, h3⟩
end
theorem zbf {α : Type} {l : List α} {i : Int} {x : α} (h : idx l i = some x) : 0 ≤ i ∧ i < l.length ∧ l[i.toNat]? = some x := by
 unfold idx at h
 split at h
 ·rename_i h0
  have := (List.getElem?_eq_some_iff.1 h).1
  exact ⟨h0, by omega, h⟩
 ·cases h
section steps
variable {P : Program} {n : Fr} {E : Env} {w : World} {v : Value} {ρd : Option Nat} {ty t e : TypeId} {pos : String} {af : Array Edge} {g : Option (Nat × Bool)} {x y z : Operand} {A : Nat → Prop}
variable {α : Type} [GoT α]
theorem zeS {l : List α} {k : IntKind} {i : Int} {el : α} (hsl : Sl A w v l) (hidx : idx l i = some el) (ht : P.underlying t = some (.slice e)) (hsz : ∀ w, (Go.sizeOf e).run P w = .ok (GoT.cells α) w)
  (hx : ev E x = some v) (hy : ev E y = some (.int k i)) : ∃ b off, El A w b off el ∧ ∀ w', Y P n E ⟨ρd, .indexAddr t x y, ty, pos, af, g⟩ w' (.pointer (some ⟨b, off, none⟩)) w' := by
 obtain ⟨h0, h1, h2⟩ := zbf hidx
 rcases hsl with ⟨_, _, rfl, rfl, _, _⟩ | ⟨b, off, cap, cs, rfl, hb, hlt, hlc, hcm, hrep, hat⟩
 ·simp at h2
 ·obtain ⟨c1, c2, c3, rfl, hl, hr⟩ := hrep.at h2
  refine ⟨b, off + i.toNat * GoT.cells α, ⟨hb, hlt, c2, hr, ?_⟩, fun w' a ha => ?_⟩
  ·rw [← hl]
   exact hat.right.left
  ·have hadd : (⟨b, off, none⟩ : Addr).add (i.toNat * GoT.cells α) = ⟨b, off + i.toNat * GoT.cells α, none⟩ := by
    unfold Addr.add
    split <;> simp_all
   simp only [execOp, ha.eval hx, ha.eval hy, Instr.indexAt, asIntOf]
   simp [underlying, ht, hsz, h0, h1, hadd]
theorem qn {b off : Nat} (hc : w.cell? ⟨b, off, none⟩ = some v) (ha : ∀ w, (isAgg t).run P w = .ok false w) (hx : ev E x = some (.pointer (some ⟨b, off, none⟩))) : Y P n E ⟨ρd, .load t x, ty, pos, af, g⟩ w v w := fun a hA => by
 simp only [execOp, hA.eval hx, Instr.loadAt, Instr.sureAddr]
 simp [loadVar, ha, hc]
theorem zbE (cs : List Value) : ∀ (b off i : Nat) (acc : Array Value), (∀ j u, cs[j]? = some u → w.cell? ⟨b, off + (i + j), none⟩ = some u) →
  (loadCellsFrom ⟨b, off, none⟩ i cs.length acc).run P w = .ok (acc ++ cs.toArray) w := by
 induction cs with
 | nil => intro b off i acc _; simp [loadCellsFrom]
 | cons c r ih =>
  intro b off i acc h
  have h0 := h 0 c rfl
  have hadd : (⟨b, off, none⟩ : Addr).add i = ⟨b, off + i, none⟩ := by unfold Addr.add; split <;> simp_all
  simp only [List.length_cons, loadCellsFrom, hadd]
  have := ih b off (i + 1) (acc.push c) (fun j u hj => by rw [show i + 1 + j = i + (j + 1) by omega]; exact h (j + 1) u (by simpa using hj))
  simp only [Nat.add_zero] at h0
  simp [h0, this]
theorem zx {b off : Nat} {cs : List Value} (hc : At w b off cs) (ha : ∀ w, (isAgg t).run P w = .ok true w) (hs : ∀ w, (Go.sizeOf t).run P w = .ok cs.length w) (hx : ev E x = some (.pointer (some ⟨b, off, none⟩))) :
  Y P n E ⟨ρd, .load t x, ty, pos, af, g⟩ w (.agg cs.toArray) w := fun a hA => by
 have := zbE (P := P) (w := w) cs b off 0 #[] (fun j u hj => by rw [Nat.zero_add]; exact hc j u hj)
 simp only [execOp, hA.eval hx, Instr.loadAt, Instr.sureAddr]
 simp [loadVar, ha, hs, loadCells, this]
theorem zcF {b off i : Nat} {fs : Array Field} {f : Field} {sz : Nat} (ht : P.underlying t = some (.struct fs)) (hf : fs[i]? = some f) (hs : ∀ w, (Go.sizeOf f.type).run P w = .ok sz w) (hz : sz ≠ 0)
  (hx : ev E x = some (.pointer (some ⟨b, off, none⟩))) : Y P n E ⟨ρd, .fieldAddr t x i, ty, pos, af, g⟩ w (.pointer (some ⟨b, off + f.offset, none⟩)) w := fun a hA => by
 have hadd : (⟨b, off, none⟩ : Addr).add f.offset = ⟨b, off + f.offset, none⟩ := by unfold Addr.add; split <;> simp_all
 simp only [execOp, hA.eval hx, Instr.fieldAt]
 simp [underlying, ht, hf, Instr.sureAddr, fieldPlace, hs, hz, hadd]
theorem zaJ {a : Option Addr} {len cap : Nat} {ats : Array TypeId} (h0 : ats[0]? = some t) (ht : P.underlying t = some (.slice e)) (hx : ev E x = some (.slice a len cap)) :
  Y P n E ⟨ρd, .call ⟨.builtin .len, #[x], ats⟩, ty, pos, af, g⟩ w (.int .i64 len) w := fun a hA => by
 simp [execOp, resolve, invoke, builtin, hA.eval hx, Builtin.len_, h0, underlying, ht, goInt]
theorem zA {l : List α} {ats : Array TypeId} (hsl : Sl A w v l) (h0 : ats[0]? = some t) (ht : P.underlying t = some (.slice e)) (hx : ev E x = some v) {w' : World} :
  Y P n E ⟨ρd, .call ⟨.builtin .len, #[x], ats⟩, ty, pos, af, g⟩ w' (.int .i64 (l.length : Int)) w' := by
 obtain ⟨a, c, rfl, _⟩ := hsl.form
 exact zaJ h0 ht hx
theorem zdv {s : ByteArray} {ats : Array TypeId} (h0 : ats[0]? = some t) (ht : P.underlying t = some .string) (hx : ev E x = some (.string s)) :
  Y P n E ⟨ρd, .call ⟨.builtin .len, #[x], ats⟩, ty, pos, af, g⟩ w (.int .i64 s.size) w := fun a hA => by
 simp [execOp, resolve, invoke, builtin, hA.eval hx, Builtin.len_, h0, underlying, ht, goInt]
theorem zjU {p q : Int} {k : IntKind} {ats : Array TypeId} (hx : ev E x = some (.int k p)) (hy : ev E y = some (.int k q)) :
  Y P n E ⟨ρd, .call ⟨.builtin .min, #[x, y], ats⟩, ty, pos, af, g⟩ w (.int k (if q < p then q else p)) w := fun a hA => by
 simp [execOp, resolve, invoke, builtin, hA.eval hx, hA.eval hy, Builtin.min_, Builtin.min2]
theorem zeh {p q : Int} {k : IntKind} {ats : Array TypeId} (hx : ev E x = some (.int k p)) (hy : ev E y = some (.int k q)) :
  Y P n E ⟨ρd, .call ⟨.builtin .max, #[x, y], ats⟩, ty, pos, af, g⟩ w (.int k (if p < q then q else p)) w := fun a hA => by
 simp [execOp, resolve, invoke, builtin, hA.eval hx, hA.eval hy, Builtin.max_, Builtin.max2]
end steps
end Go.Gw
namespace Go.Gw
open Go Go.RowKit Go.Pu
variable {Dw : Prop}
section more
variable {P : Program} {n : Fr} {ops : Array Oper} {Q : Exit → Act → World → Prop} {E : Env} {w : World} {rest : List Oper} {v : Value} {d : Nat} {W : World → Prop} {QA : Act → Prop}
variable {ty t e : TypeId} {pos : String} {af : Array Edge} {x y z : Operand} {A : Nat → Prop} {α : Type} [GoT α] {ρd : Option Nat} {g : Option (Nat × Bool)}
theorem zy {l : List α} {k : IntKind} {i : Int} {el : α} (hsl : Sl A w v l) (hidx : idx l i = some el) (ht : P.underlying t = some (.slice e)) (hsz : ∀ w, (Go.sizeOf e).run P w = .ok (GoT.cells α) w)
  (hx : ev E x = some v) (hy : ev E y = some (.int k i)) (hn : Nat.blt d n.sz = true) (h : ∀ b off, El A w b off el → V P n ops Q rest ((d, .pointer (some ⟨b, off, none⟩)) :: E) w) :
  V P n ops Q (⟨some d, .indexAddr t x y, ty, pos, af, none⟩ :: rest) E w := by
 obtain ⟨b, off, he, hY⟩ := zeS (ρd := some d) (ty := ty) (pos := pos) (af := af) (g := none) hsl hidx ht hsz hx hy
 exact V_y (hY w) rfl rfl hn (h b off he)
theorem Zl {l : List α} {k : IntKind} {i : Int} {el : α} (hsl : Sl A w v l) (hidx : idx l i = some el) (ht : P.underlying t = some (.slice e)) (hsz : ∀ w, (Go.sizeOf e).run P w = .ok (GoT.cells α) w)
  (hx : ev E x = some v) (hy : ev E y = some (.int k i)) (hn : Nat.blt d n.sz = true) (h : ∀ b off, El A w b off el → VQ P n ops W QA rest ((d, .pointer (some ⟨b, off, none⟩)) :: E)) :
  VQ P n ops W QA (⟨some d, .indexAddr t x y, ty, pos, af, none⟩ :: rest) E := by
 obtain ⟨b, off, he, hY⟩ := zeS (ρd := some d) (ty := ty) (pos := pos) (af := af) (g := none) hsl hidx ht hsz hx hy
 exact VQ_y (fun w' _ => hY w') rfl rfl hn (h b off he)
theorem qk {fn : Fn} {fst cap : Array Operand} {vs us : List Value} (h1 : evs E fst.toList = some vs) (h2 : evs E cap.toList = some us) :
  Y P n E ⟨ρd, .makeFunc fn fst cap, ty, pos, af, g⟩ w (.func fn vs.toArray us.toArray) w := fun a hA => by
 have e1 : fst.map a.eval = vs.toArray := by apply Array.toList_inj.1; rw [Array.toList_map, hA.evals h1]
 have e2 : cap.map a.eval = us.toArray := by apply Array.toList_inj.1; rw [Array.toList_map, hA.evals h2]
 simp only [execOp, e1, e2]; rfl
structure NewB (w w1 : World) (b : Nat) (cs : Array Value) (t : TypeId) : Prop where
 kp : ∀ {Dw : Prop}, Kp Dw w w1
 blk : b = w.heap.size
 heap : w1.heap[b]? = some (.cells cs t (0, 0))
 size : w1.heap.size = b + 1
theorem zdM (w : World) (cs : Array Value) (t : TypeId) : NewB w (w.alloc (.cells cs t)) w.heap.size cs t :=
 ⟨Kp.alloc _ _, rfl, heap_alloc_new w _, by simp⟩
theorem NewB.at {w w1 : World} {b : Nat} {cs : Array Value} {t : TypeId} (h : NewB w w1 b cs t) : At w1 b 0 cs.toList := fun j u hj => by
 simp only [World.cell?, h.heap, Nat.zero_add]
 simpa using hj
theorem NewB.el {w w1 : World} {b : Nat} {cs : Array Value} {t : TypeId} {x : α} (h : NewB w w1 b cs t) (hA : ∀ b, w.heap.size ≤ b → A b) (hr : GoT.rep A w cs.toList x) : El A w1 b 0 x :=
 ⟨hA b (by rw [h.blk]; exact Nat.le_refl _), by rw [h.size]; omega, cs.toList, GoT.keep hr (.kp (h.kp (Dw := True))), h.at⟩
theorem NewB.sl {w w1 : World} {b : Nat} {cs : Array Value} {t : TypeId} {l : List α} (h : NewB w w1 b cs t) (hA : ∀ b, w.heap.size ≤ b → A b) (hr : repL A w cs.toList l) (hm : l.length ≤ maxLen) : Sl A w1 (.slice (some ⟨b, 0, none⟩) l.length l.length) l :=
 .inr ⟨b, 0, l.length, cs.toList, rfl, hA b (by rw [h.blk]; exact Nat.le_refl _), by rw [h.size]; omega, Nat.le_refl _, hm, hr.keep (.kp (h.kp (Dw := True))), h.at⟩
theorem Zy (hv : ev E y = some v) (hn : Nat.blt d n.sz = true) (h : ∀ b w1, NewB w w1 b v.cells t → V P n ops Q rest ((d, .pointer (some ⟨b, 0, none⟩)) :: E) w1) :
  V P n ops Q (⟨some d, .box t y, ty, pos, af, none⟩ :: rest) E w :=
 V_y (w' := w.alloc (.cells v.cells t)) (v := .pointer (some ⟨w.heap.size, 0, none⟩)) (fun a hA => by simp only [execOp, hA.eval hv, Instr.box]; simp [newVar, newRow]) rfl rfl hn (h _ _ (zdM w _ _))
theorem Zf {zv : Value} (hz : ∀ w, (zeroValue t).run P w = .ok zv w) (hn : Nat.blt d n.sz = true) (h : ∀ b w1, NewB w w1 b zv.cells t → V P n ops Q rest ((d, .pointer (some ⟨b, 0, none⟩)) :: E) w1) :
  V P n ops Q (⟨some d, .alloc t, ty, pos, af, none⟩ :: rest) E w :=
 V_y (w' := w.alloc (.cells zv.cells t)) (v := .pointer (some ⟨w.heap.size, 0, none⟩)) (fun a hA => by simp only [execOp, Instr.alloc]; simp [hz, newVar, newRow]) rfl rfl hn (h _ _ (zdM w _ _))
theorem At.kp {w w' : World} {b off : Nat} {cs : List Value} (h : At w b off cs) (hk : Kp Dw w w') (hb : b < w.heap.size) : At w' b off cs := h.same (hk.block b hb)
theorem zX {l : List α} {len : Nat} {parts : Array (Nat × Operand)} {zv : Value} {vs : List Value} {cells : Array Value} (ht : P.underlying t = some (.slice e)) (hs : ∀ w, (Go.sizeOf e).run P w = .ok (GoT.cells α) w) (hz : ∀ w, (zeroValue e).run P w = .ok zv w)
  (hv : evs E (parts.toList.map (·.2)) = some vs)
  (hf : Instr.fill (fun i => some (i * GoT.cells α, GoT.cells α)) ((Array.range (len * GoT.cells α)).map (zv.cells[· % zv.cells.size]!)) ((parts.toList.map (·.1)).zip vs) = some cells)
  (h0 : len * GoT.cells α ≠ 0) (hle : len * GoT.cells α ≤ 2 ^ 24) (hA : ∀ b, w.heap.size ≤ b → A b) (hr : repL A w cells.toList l) (hlen : l.length = len) (hn : Nat.blt d n.sz = true)
  (h : ∀ v w1, Kp Dw w w1 → Sl A w1 v l → V P n ops Q rest ((d, v) :: E) w1) : V P n ops Q (⟨some d, .buildSlice t len parts, ty, pos, af, none⟩ :: rest) E w := by
 have hnb := zdM w cells e
 have hlen2 : l.length ≤ maxLen := by
  have h1 : 1 ≤ GoT.cells α := Nat.one_le_iff_ne_zero.2 fun h => h0 (by rw [h, Nat.mul_zero])
  have h2 : len ≤ len * GoT.cells α := Nat.le_mul_of_pos_right _ h1
  rw [hlen]
  exact Nat.le_trans (Nat.le_trans h2 hle) (by decide)
 refine V_y (w' := w.alloc (.cells cells e)) (v := .slice (some ⟨w.heap.size, 0, none⟩) len len) (fun a hA' => ?_) rfl rfl hn (h _ _ hnb.kp (by have := hnb.sl hA hr hlen2; rw [hlen] at this; exact this))
 have hp : (parts.map fun (i, x) => (i, a.eval x)).toList = (parts.toList.map (·.1)).zip vs := by
  rw [← hA'.evals hv]
  simp only [Array.toList_map]
  generalize parts.toList = ps
  induction ps with
  | nil => rfl
  | cons p r ih => obtain ⟨i, x⟩ := p; simp [ih]
 simp only [execOp, Instr.buildSlice]
 rw [hp]
 simp [underlying, ht, hs, hz, h0, Nat.not_lt.2 hle, hf, newRow]
theorem V_s {o : Oper} {w' : World} (hr : ∀ a, Has n a E → (execOp a.eval o).run P w = .ok .skip w') (hg : o.guard = none) (hd : o.dst = none) (h : V P n ops Q rest E w') : V P n ops Q (o :: rest) E w := by
 intro a ha
 refine wpListIn_plain hg fun K hK => ⟨fun _ _ => trivial, ?_⟩
 rw [Qe (hr a ha) (fun d h => by cases h), Oper.uponIn_skip, hd]
 exact hK _ _ (h _ ha)
theorem zju {w0 : World} {b : Nat} {cs : Array Value} {sz : Nat} (hb : NewB w0 w b cs e) (hs : ∀ w, (Go.sizeOf t).run P w = .ok sz w) (hv : ev E y = some v) (hx : ev E x = some (.pointer (some ⟨b, 0, none⟩))) (h1 : v.cells.size = sz) (h2 : cs.size = sz)
  (hone : ∀ u ∈ v.cells.toList, u.oneCell' = true) (h : ∀ w2, NewB w0 w2 b v.cells e → V P n ops Q rest E w2) : V P n ops Q (⟨none, .store t x y, ty, pos, af, none⟩ :: rest) E w := by
 have hst := run_storeCells_at P b 0 e v.cells.toList 0 cs w hb.heap (by simp; omega) hone
 have hrow : (cs.toList.take (0 + 0) ++ v.cells.toList ++ cs.toList.drop (0 + 0 + v.cells.toList.length)).toArray = v.cells := by
  simp only [Nat.add_zero, Nat.zero_add, List.take_zero, List.nil_append]
  rw [List.drop_eq_nil_of_le (by simp; omega)]
  simp
 have hr : ∀ a, Has n a E → (execOp a.eval (⟨none, .store t x y, ty, pos, af, none⟩ : Oper)).run P w = .ok .skip (w.setRow b v.cells) := fun a hA => by
  simp only [execOp, hA.eval hx, hA.eval hv, Instr.storeAt, Instr.sureAddr]
  rw [hrow] at hst
  simp [storeVar, hs, h1, hst]
 refine V_s hr rfl rfl (h _ ⟨⟨?_, ?_, ?_, ?_, fun d => ?_, ?_⟩, hb.blk, ?_, ?_⟩)
 ·simp [World.setRow]; exact (hb.kp (Dw := True)).os
 ·simp [World.setRow]; exact (hb.kp (Dw := True)).tape
 ·simp [World.setRow]; exact (hb.kp (Dw := True)).output
 ·have := (hb.kp (Dw := True)).size; simp [World.setRow]; exact this
 ·exact (hb.kp (Dw := True)).dr trivial
 ·intro k hk
  rw [setRow_other w b k _ (by rw [hb.blk]; omega)]
  exact (hb.kp (Dw := True)).block k hk
 ·exact setRow_heap w b cs _ e _ hb.heap
 ·have := hb.size; simp [World.setRow]; exact this
end more
end Go.Gw
