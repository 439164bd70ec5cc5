/-
  What an element of an own slice has inside; slices.Delete at ints.
-/
import Derived.Test.YtgmenjhmnjhgoaaDoorHf
namespace Go.Gw
open Go Go.RowKit Go.Pu Go.Sort
variable {Dw : Prop}
set_option linter.unusedSimpArgs false
set_option linter.unusedVariables false

section
variable {B : Nat} {A : Nat → Prop} {w : World} {L : List Ob} {i b off : Nat} {ix : Int} {α : Type} [GoT α] {e : TypeId} {v : Value} {l : List α} {x : α}
/-- an element of an own slice, with what is inside it -/
theorem Hp.elemRep (hH : Hp B A w L) (hi : L[i]? = some (obS e v l)) (hloc : Loc v b off ix (GoT.cells α)) (hidx : idx l ix = some x) : ∃ cs, GoT.rep A w cs x ∧ At w b off cs := by
  obtain ⟨h0, h1, h2⟩ := idx_some hidx
  obtain ⟨f, hp, hb, _⟩ := hH.at hi
  rcases OwP.ow hp hb with ⟨rfl, rfl⟩ | ⟨g, cap, cur, cs, rfl, _, _, h4, h5, _, h7, h8, h9⟩
  · simp at h2
  obtain ⟨⟨len, c, hv⟩, ho⟩ := hloc
  simp only [Value.slice.injEq, Option.some.injEq, Addr.mk.injEq, and_true] at hv
  obtain ⟨rfl, _, _⟩ := hv
  obtain ⟨c1, c2, c3, rfl, hl, hr⟩ := h8.at h2
  have hat : At w g 0 (c1 ++ (c2 ++ c3)) := fun j u hj => by
    rw [← h9, List.getElem?_take] at hj
    split at hj
    case isFalse => cases hj
    simp only [World.cell?, h4, Nat.zero_add]
    simpa using hj
  refine ⟨c2, hr, ?_⟩
  have := hat.right.left
  rw [hl] at this
  rw [ho]
  simpa using this
end

section
variable {P : Program} {f : FuncId} {B : Nat} {A : Nat → Prop} {w : World} {L : List Ob} {k : Nat} {e : TypeId} {v : Value}
/-- slices.Delete at ints, of a slice that is not empty -/
theorem Hp.deleteInts {l r : List Int} {i j : Int}
    (h1 : ∀ (blk off cap i j : Nat) (zs : List Int) (w : World), Holds (Value.int .i64) w blk off zs.toArray → zs.length ≤ cap → cap ≤ 9223372036854775807 → i ≤ j → j ≤ zs.length →
      Calls P f #[.slice (some ⟨blk, off, none⟩) zs.length cap, .int .i64 i, .int .i64 j] w fun e w' => e = .returned (.slice (some ⟨blk, off, none⟩) (zs.length - (j - i)) cap) ∧ ∃ q, w' = Go.Sort.putRow (Value.int .i64) (Go.Sort.ahead w q) blk off (zs.take i ++ zs.drop j ++ List.replicate (j - i) 0).toArray)
    (hH : Hp B A w L) (hi : L[k]? = some (obS (α := Int) e v l)) (hB : B ≤ w.heap.size) (hA : ∀ b, w.heap.size ≤ b → A b) (hr : (if 0 ≤ i ∧ i ≤ j ∧ j ≤ (l.length : Int) ∧ 1 ≤ l.length then some (l.take i.toNat ++ l.drop j.toNat) else none) = some r) :
    Ret P f #[v, .int .i64 i, .int .i64 j] w fun u w' => ∃ v', u = v' ∧ Hp B A w' (L.set k (obS e v' r)) ∧ Tr Dw B A w A w' := by
  split at hr
  case isFalse => cases hr
  rename_i hsz
  obtain ⟨i1, i2, i3, i4⟩ := hsz
  cases hr
  obtain ⟨i, rfl⟩ : ∃ n : Nat, i = (n : Int) := ⟨i.toNat, by omega⟩
  obtain ⟨j, rfl⟩ : ∃ n : Nat, j = (n : Int) := ⟨j.toNat, by omega⟩
  rw [Int.toNat_natCast, Int.toNat_natCast]
  obtain ⟨fs, hp, hb, hset⟩ := hH.at hi
  rcases hp with ⟨_, rfl, _⟩ | ⟨g, cap, cur, cs, rfl, rfl, h4, h5, h6, h7, h8, h9⟩
  · simp at i4
  have hc1 : GoT.cells Int = 1 := rfl
  rw [hc1, Nat.mul_one] at h7 h9
  have hcs := repL_int.1 h8
  have hHolds : Holds (Value.int .i64) w g 0 l.toArray := by
    intro j hj
    simp at hj
    constructor
    · simp only [World.cell?, h4, Nat.zero_add]
      have : (cur.toList.take l.length)[j]? = (l.map (Value.int .i64))[j]? := by rw [h9, hcs]
      rw [List.getElem?_take, if_pos hj, List.getElem?_map, List.getElem?_eq_getElem hj] at this
      simpa [hj] using this
    · simp [World.frozen?, h4]
  refine Calls.mono (h1 g 0 cap i j l w hHolds h5 h6 (by omega) (by omega)) ?_
  rintro _ _ ⟨rfl, q, rfl⟩
  refine ⟨_, rfl, ?_⟩
  have hlen : (l.take i ++ l.drop j).length = l.length - (j - i) := by
    rw [List.length_append, List.length_take, List.length_drop]
    omega
  have := Hp.putRow (Dw := Dw) (α := Int) (r := l.take i ++ l.drop j) (zs := l.take i ++ l.drop j ++ List.replicate (j - i) 0) (enc := Value.int .i64) (q := q) (os := #[]) (m := l.length - (j - i)) rfl hH hi hB hA (by rw [List.length_append, hlen, List.length_replicate]; omega) (by rw [List.length_append, hlen]; omega) hlen (fun A' w' _ => by rw [← hlen, List.take_left]; exact repL_int.2 rfl)
  rw [grow_empty] at this
  exact ⟨_, rfl, this⟩
end

section
variable {P : Program} {n : Fr} {ops : Array Oper} {Q : Exit → Act → World → Prop} {E : Env} {w : World} {rest : List Oper} {d : Nat}
variable {ty t e : TypeId} {pos : String} {af : Array Edge} {A : Nat → Prop} {α : Type} [GoT α]
/-- an own slice from a list, as a step that keeps what was there -/
theorem V_buildOwnHk {B : Nat} {l : List α} {len : Nat} {L : List Ob} {parts : Array (Nat × Operand)} {zv : Value} {vs : List Value} {cells : Array Value} (hH : Hp B A w L) (ht : P.underlying t = some (.slice e)) (hs : ∀ w, (Go.sizeOf e).run P w = .ok (GoT.cells α) w) (hz : ∀ w, (zeroValue e).run P w = .ok zv w)
    (hv : evs E (parts.toList.map (·.2)) = some vs)
    (hf : Instr.fill (fun i => some (i * GoT.cells α, GoT.cells α)) ((Array.range (len * GoT.cells α)).map (zv.cells[· % zv.cells.size]!)) ((parts.toList.map (·.1)).zip vs) = some cells)
    (h0 : len * GoT.cells α ≠ 0) (hle : len * GoT.cells α ≤ 2 ^ 24) (hB : B ≤ w.heap.size) (hA : ∀ b, w.heap.size ≤ b → A b) (hr : repL A w cells.toList l) (hlen : l.length = len) (hn : Nat.blt d n.sz = true)
    (h : ∀ v w1 A1, Kp Dw w w1 → Hp B A1 w1 (obS e v l :: L) → Tr Dw B A w A1 w1 → V P n ops Q rest ((d, v) :: E) w1) :
    V P n ops Q (⟨some d, .buildSlice t len parts, ty, pos, af, none⟩ :: rest) E w := by
  have hk := Kp.alloc (Dw := Dw) w (.cells cells e)
  have hmv : Mv Dw B A w (fun b => A b ∧ b ≠ w.heap.size) (w.alloc (.cells cells e)) none :=
    ⟨hk.os, hk.tape, hk.output, hk.size, hk.dr, fun k h _ => hk.block k h, (fun k h => by cases h), fun k h => h.1, fun k hk ha => ⟨ha, by omega⟩, fun b hb => ⟨hA b (Nat.le_trans hk.size hb), by
      have : w.heap.size < (w.alloc (.cells cells e)).heap.size := (Array.getElem?_eq_some_iff.1 (heap_alloc_new w (.cells cells e))).1
      omega⟩⟩
  have hlen2 : l.length ≤ maxLen := by
    have h1 : 1 ≤ GoT.cells α := Nat.one_le_iff_ne_zero.2 fun h => h0 (by rw [h, Nat.mul_zero])
    have h2 : len ≤ len * GoT.cells α := Nat.le_mul_of_pos_right _ h1
    rw [hlen]
    exact Nat.le_trans (Nat.le_trans h2 hle) (by decide)
  subst hlen
  refine V_y (w' := w.alloc (.cells cells e)) (v := .slice (some ⟨w.heap.size, 0, none⟩) l.length l.length) (fun a hA' => ?_) rfl rfl hn (h _ _ _ hk (hH.new hmv hB (Ow.owp (α := α) (.inr ⟨w.heap.size, l.length, cells, cells.toList, rfl, hB, fun h => h.2 rfl, heap_alloc_new w _, Nat.le_refl _, hlen2, by have := hr.len; simpa using this, hr.keep hmv.ex, List.take_of_length_le (by have := hr.len; simp at this ⊢; omega)⟩)) fun b hb => ⟨?_, ?_⟩) (hmv.tr hB))
  · have hp : (parts.map fun (i, x) => (i, a.eval x)).toList = (parts.toList.map (·.1)).zip vs := by
      rw [← hA'.evals hv]
      simp only [Array.toList_map]
      generalize parts.toList = ps
      induction ps with
      | nil => rfl
      | cons p r ih => obtain ⟨i, x⟩ := p; simp [ih]
    simp only [execOp, Instr.buildSlice]
    rw [hp]
    simp [underlying, ht, hs, hz, h0, Nat.not_lt.2 hle, hf, newRow]
  · simp [Value.ownBlock] at hb; omega
  · simp [Value.ownBlock] at hb; subst hb; exact fun h => h.2 rfl
end
section
variable {B B1 : Nat} {A A1 : Nat → Prop} {w w1 : World} {L L1 : List Ob} {i j b : Nat} {cs : List Value} {t : TypeId}
/-- a variable of the call's own that a step leaves as it is may be read across it -/
theorem XA.addC (hx : XA A w w1) (h : Hp B A w L) (hi : L[i]? = some (obC b cs t)) (h1 : Hp B1 A1 w1 L1) (hj : L1[j]? = some (obC b cs t)) : XA (fun k => A k ∨ k = b) w w1 :=
  ⟨hx.1, fun k hk ha => ha.elim (hx.2 k hk) fun e => by subst e; rw [(h1.cells hj).2.1, (h.cells hi).2.1]⟩
theorem XA.inl (h : XA (fun k => A k ∨ k = b) w w1) : XA A w w1 := XA.less h fun _ _ => Or.inl
end
section
variable {P : Program} {n : Fr} {ops : Array Oper} {Q : Exit → Act → World → Prop} {E : Env} {w : World} {rest : List Oper} {v u : Value} {d : Nat}
variable {ty t e : TypeId} {pos : String} {af : Array Edge} {x y z : Operand} {A : Nat → Prop} {α : Type} [GoT α] {B : Nat} {L : List Ob} {i : Nat}
/-- an append to an own slice leaves all other blocks as they are -/
theorem V_appendHs {l m r : List α} {lim bytes : Nat} {ti : TypeInfo} {zv : Value} (hH : Hp B A w L) (hi : L[i]? = some (obS e v l)) (hm : Sl A w u m) (hr : appendL lim l m = some r) (ht : P.underlying t = some (.slice e)) (hti : P.info? e = some ti) (hz : ti.zero = some zv)
    (hsize : ti.size = GoT.cells α) (hby : ti.bytes = bytes) (hzs : zv.cells.size = GoT.cells α) (hsz : GoT.cells α ≠ 0) (hlim : lim * bytes ≤ 140737488355328) (hlm : lim ≤ maxLen) (hB : B ≤ w.heap.size) (hA : ∀ b, w.heap.size ≤ b → A b)
    (hx : ev E x = some v) (hy : ev E y = some u) (hn : Nat.blt d n.sz = true)
    (h : ∀ v' w1 A1, Hp B A1 w1 (L.set i (obS e v' r)) → Tr Dw B A w A1 w1 → (w.heap.size ≤ w1.heap.size ∧ ∀ k, k < w.heap.size → some k ≠ v.ownBlock → w1.heap[k]? = w.heap[k]?) → V P n ops Q rest ((d, v') :: E) w1) :
    V P n ops Q (⟨some d, .call ⟨.builtin .append, #[x, y], #[t, t]⟩, ty, pos, af, none⟩ :: rest) E w := by
  obtain ⟨f, hp, hb, hset⟩ := hH.at hi
  have hf := OwP.fp hp
  refine V_append (OwP.ow hp hb) hm hr ht hti hz hsize hby hzs hsz hlim hlm hB hA hx hy hn fun v' w1 A1 ho mv hpr => h v' w1 A1 (hset A1 w1 v.ownBlock _ _ mv (fun k hk => by rw [hf, hk]; simp) ho.owp fun b hb => ⟨?_, ho.off b hb⟩) (mv.tr hB) ⟨(mv.tr hB).ex.size, fun k hk hne => mv.blk k hk hne⟩
  have hb' : v'.ownBlock = some b := by simpa using hb
  rw [hf]
  rcases hpr b hb' with h1 | h1
  · exact .inl (by rw [h1]; simp)
  · exact .inr h1
theorem XA.addS {A0 : Nat → Prop} {w1 : World} {bx : Nat} (hs : w.heap.size ≤ w1.heap.size ∧ ∀ k, k < w.heap.size → some k ≠ v.ownBlock → w1.heap[k]? = w.heap[k]?) (ho : ∀ g, v.ownBlock = some g → ¬ A0 g ∧ g ≠ bx) : XA (fun k => A0 k ∨ k = bx) w w1 :=
  ⟨hs.1, fun k hk ha => hs.2 k hk fun e => ha.elim (ho k e.symm).1 (ho k e.symm).2⟩
theorem Hp.ownOff {l : List α} {j b : Nat} {cs : List Value} (h : Hp B A w L) (hi : L[i]? = some (obS e v l)) (hj : L[j]? = some (obC b cs t)) (hne : e ≠ t) : ∀ g, v.ownBlock = some g → ¬ A g ∧ g ≠ b := by
  obtain ⟨f, hp, hb, _⟩ := h.at hi
  intro g hg
  rcases hp with ⟨rfl, _, _⟩ | ⟨g', cap, cur, cs', rfl, rfl, h4, _⟩
  · simp [Value.ownBlock] at hg
  · simp [Value.ownBlock] at hg
    subst hg
    refine ⟨(hb _ (by simp)).2.2, fun e => ?_⟩
    subst e
    have := (h.cells hj).2.1
    rw [h4] at this
    simp only [Option.some.injEq, Obj.cells.injEq] at this
    exact hne this.2.1
end
end Go.Gw
