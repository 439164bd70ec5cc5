import Derived.Test.YtiblagcmjobknaaGreatDoorGn
namespace Go.Gw
open Go Go.RowKit Go.Pu
variable {Dw : Prop}
set_option linter.unusedSimpArgs false
set_option linter.unusedVariables false
theorem zjD {β : Type} (X F S T G R nv : List β) (h : nv.length = S.length) :
  ((X ++ (F ++ (S ++ (T ++ (G ++ R))))).take (X.length + F.length) ++ nv ++ (X ++ (F ++ (S ++ (T ++ (G ++ R))))).drop (X.length + F.length + S.length)).take (X.length + (F.length + S.length + T.length) + G.length) =
   (X ++ (F ++ (S ++ (T ++ G)))).take X.length ++ ((((X ++ (F ++ (S ++ (T ++ G)))).drop X.length).take (F.length + S.length + T.length)).take F.length ++ nv ++ (((X ++ (F ++ (S ++ (T ++ G)))).drop X.length).take (F.length + S.length + T.length)).drop (F.length + S.length)) ++ (X ++ (F ++ (S ++ (T ++ G)))).drop (X.length + (F.length + S.length + T.length)) := by
 have e1 : (X ++ (F ++ (S ++ (T ++ (G ++ R))))).take (X.length + F.length) = X ++ F := by
  rw [← List.length_append, ← List.append_assoc]; exact List.take_left
 have e2 : (X ++ (F ++ (S ++ (T ++ (G ++ R))))).drop (X.length + F.length + S.length) = T ++ (G ++ R) := by
  rw [show X ++ (F ++ (S ++ (T ++ (G ++ R)))) = (X ++ (F ++ S)) ++ (T ++ (G ++ R)) by simp, show X.length + F.length + S.length = (X ++ (F ++ S)).length by simp [Nat.add_assoc]]; exact List.drop_left
 have e3 : (X ++ (F ++ (S ++ (T ++ G)))).drop X.length = F ++ (S ++ (T ++ G)) := List.drop_left
 have e4 : (F ++ (S ++ (T ++ G))).take (F.length + S.length + T.length) = F ++ (S ++ T) := by
  rw [show F ++ (S ++ (T ++ G)) = (F ++ (S ++ T)) ++ G by simp, show F.length + S.length + T.length = (F ++ (S ++ T)).length by simp [Nat.add_assoc]]; exact List.take_left
 have e5 : (F ++ (S ++ T)).drop (F.length + S.length) = T := by
  rw [← List.append_assoc, ← List.length_append]; exact List.drop_left
 have e6 : (X ++ (F ++ (S ++ (T ++ G)))).drop (X.length + (F.length + S.length + T.length)) = G := by
  rw [show X ++ (F ++ (S ++ (T ++ G))) = (X ++ (F ++ (S ++ T))) ++ G by simp, show X.length + (F.length + S.length + T.length) = (X ++ (F ++ (S ++ T))).length by simp [Nat.add_assoc]]; exact List.drop_left
 rw [e1, e2, e3, e4, e5, e6, List.take_left, List.take_left]
 rw [show X ++ F ++ nv ++ (T ++ (G ++ R)) = (X ++ F ++ nv ++ T ++ G) ++ R by simp, show X.length + (F.length + S.length + T.length) + G.length = (X ++ F ++ nv ++ T ++ G).length by simp [h]; omega, List.take_left]
 simp
theorem zlO {β : Type} (cur nv : List β) (i c foff sz N : Nat) (h1 : i + c ≤ N) (h2 : N ≤ cur.length) (h3 : foff + sz ≤ c) (h4 : nv.length = sz) :
  (cur.take (i + foff) ++ nv ++ cur.drop (i + foff + sz)).take N =
   (cur.take N).take i ++ ((((cur.take N).drop i).take c).take foff ++ nv ++ (((cur.take N).drop i).take c).drop (foff + sz)) ++ (cur.take N).drop (i + c) := by
 obtain ⟨D, R, rfl, hD⟩ : ∃ D R, cur = D ++ R ∧ D.length = N := ⟨cur.take N, cur.drop N, by simp, by simp; omega⟩
 obtain ⟨X, D, rfl, hX⟩ : ∃ X Y, D = X ++ Y ∧ X.length = i := ⟨D.take i, D.drop i, by simp, by simp; omega⟩
 obtain ⟨F, D, rfl, hF⟩ : ∃ X Y, D = X ++ Y ∧ X.length = foff := ⟨D.take foff, D.drop foff, by simp, by simp at hD ⊢; omega⟩
 obtain ⟨S, D, rfl, hS⟩ : ∃ X Y, D = X ++ Y ∧ X.length = sz := ⟨D.take sz, D.drop sz, by simp, by simp at hD ⊢; omega⟩
 obtain ⟨T, G, rfl, hT⟩ : ∃ X Y, D = X ++ Y ∧ X.length = c - foff - sz := ⟨D.take (c - foff - sz), D.drop (c - foff - sz), by simp, by simp at hD ⊢; omega⟩
 have hc : c = F.length + S.length + T.length := by omega
 have hN : N = X.length + (F.length + S.length + T.length) + G.length := by simp at hD; omega
 have hd : (X ++ (F ++ (S ++ (T ++ G))) ++ R).take N = X ++ (F ++ (S ++ (T ++ G))) := by
  rw [hN, show X.length + (F.length + S.length + T.length) + G.length = (X ++ (F ++ (S ++ (T ++ G)))).length by simp; omega]; exact List.take_left
 rw [hd, ← hX, ← hF, ← hS, hc, hN]
 have := zjD X F S T G R nv (by omega)
 simpa only [List.append_assoc] using this
section steps
variable {P : Program} {n : Fr} {ops : Array Oper} {Q : Exit → Act → World → Prop} {E : Env} {w : World} {rest : List Oper} {v u : Value} {d : Nat}
variable {ty t t2 e : TypeId} {pos : String} {af : Array Edge} {x y z : Operand} {A : Nat → Prop} {α : Type} [GoT α] {ρd : Option Nat} {g : Option (Nat × Bool)}
variable {k k2 : IntKind} {p q : Int} {s s2 : ByteArray}
omit [GoT α] in
theorem zkM {op : BinOp} {k2 : IntKind} {u : Value} (h : binOp op t (.int k p) (.int k2 q) = pure u) (hx : ev E x = some (.int k p)) (hy : ev E y = some (.int k2 q)) :
  Y P n E ⟨ρd, .binOp op t x y t2, ty, pos, af, g⟩ w u w := fun a ha => by
 have he : (eqGuard op t x y (.int k p) (.int k2 q)) = pure () := by unfold eqGuard; cases op <;> rfl
 simp only [execOp, ha.eval hx, ha.eval hy, he, h]; rfl
omit [GoT α] in
theorem zmb {r : Int} (hr : shr k p q = some r) (hx : ev E x = some (.int k p)) (hy : ev E y = some (.int k2 q)) : Y P n E ⟨ρd, .binOp .shr t x y t2, ty, pos, af, g⟩ w (.int k r) w := by
 unfold shr at hr
 split at hr
 ·cases hr
 ·rename_i h0
  refine zkM ?_ hx hy
  obtain rfl := Option.some.inj hr
  simp only [binOp, Op.shift, if_neg h0]
omit [GoT α] in
theorem zgc {op : BinOp} {u : Value} (h : Op.stringOp op s s2 = pure u) (hop : op = .add ∨ op = .eql ∨ op = .neq ∨ op = .lss ∨ op = .leq ∨ op = .gtr ∨ op = .geq) (hx : ev E x = some (.string s)) (hy : ev E y = some (.string s2)) :
  Y P n E ⟨ρd, .binOp op t x y t2, ty, pos, af, g⟩ w u w := fun a ha => by
 have he : (eqGuard op t x y (.string s) (.string s2)) = pure () := by unfold eqGuard; cases op <;> rfl
 have hb : binOp op t (.string s) (.string s2) = Op.stringOp op s s2 := by
  rcases hop with h | h | h | h | h | h | h <;> subst h <;> rfl
 simp only [execOp, ha.eval hx, ha.eval hy, he, hb, h]; rfl
omit [GoT α] in
theorem zlC (hx : ev E x = some (.string s)) (hy : ev E y = some (.string s2)) : Y P n E ⟨ρd, .binOp .eql t x y t2, ty, pos, af, g⟩ w (.bool (ja s s2)) w := zgc rfl (by simp) hx hy
omit [GoT α] in
theorem zhI (hx : ev E x = some (.string s)) (hy : ev E y = some (.string s2)) : Y P n E ⟨ρd, .binOp .neq t x y t2, ty, pos, af, g⟩ w (.bool (!(ja s s2))) w := zgc rfl (by simp) hx hy
omit [GoT α] in
theorem zly (hx : ev E x = some (.string s)) (hy : ev E y = some (.string s2)) : Y P n E ⟨ρd, .binOp .leq t x y t2, ty, pos, af, g⟩ w (.bool (zeH s s2 || ja s s2)) w := zgc rfl (by simp) hx hy
omit [GoT α] in
theorem zkP {r : UInt8} (hr : idxS s q = some r) (ht : P.underlying t = some .string) (hx : ev E x = some (.string s)) (hy : ev E y = some (.int k q)) : Y P n E ⟨ρd, .index t x y, ty, pos, af, g⟩ w (.int .u8 (r.toNat : Int)) w := fun a hA => by
 unfold idxS at hr
 simp only [execOp, hA.eval hx, hA.eval hy, Instr.index, asIntOf]
 simp [underlying, ht, hr]
omit [GoT α] in
theorem ziT {ts : TypeId} {du : TypeDesc} (hs : P.underlying ts = some du) (hd : P.underlying t = some (.int k2)) (hx : ev E x = some (.int k p)) : Y P n E ⟨ρd, .convert ts t x, ty, pos, af, g⟩ w (.int k2 (k2.wrap p)) w := fun a hA => by
 simp only [execOp, hA.eval hx, convert]
 simp [underlying, hs, hd, Conv.intToInt]
omit [GoT α] in
theorem zaz {fs : Array Field} {zv : Value} {parts : Array (Nat × Operand)} {places : Array (Nat × Nat)} {vs : List Value} {cells : Array Value} (ht : P.underlying t = some (.struct fs)) (hz : ∀ w, (zeroValue t).run P w = .ok zv w)
  (hp : ∀ w, (Array.mapM (fun (f : Field) => do pure (f.offset, ← Go.sizeOf f.type)) fs).run P w = .ok places w) (hv : evs E (parts.toList.map (·.2)) = some vs)
  (hf : Instr.fill (places[·]?) zv.cells ((parts.toList.map (·.1)).zip vs) = some cells) : Y P n E ⟨ρd, .build t parts, ty, pos, af, g⟩ w (.agg cells) w := fun a hA => by
 have hq : (parts.map fun (i, x) => (i, a.eval x)).toList = (parts.toList.map (·.1)).zip vs := by
  rw [← hA.evals hv]
  simp only [Array.toList_map]
  generalize parts.toList = ps
  induction ps with
  | nil => rfl
  | cons p r ih => obtain ⟨i, x⟩ := p; simp [ih]
 simp only [execOp, Instr.build]
 rw [hq]
 have h2 := hp w
 simp at h2
 simp [underlying, ht, hz, h2, hf]
theorem Sl.split {l : List α} (h : Sl A w v l) : (v = .slice none 0 0 ∧ l = []) ∨ ∃ a m c, v = .slice (some a) m c := by
 rcases h with ⟨a, cap, rfl, hl, _, hc⟩ | ⟨b, off, cap, cs, rfl, _⟩
 ·cases a with
  | none => exact .inl ⟨by rw [hc rfl], hl⟩
  | some a => exact .inr ⟨_, _, _, rfl⟩
 ·exact .inr ⟨_, _, _, rfl⟩
omit [GoT α] in
theorem Jx (hx : ev E x = some (.slice none 0 0)) (hy : ev E y = some (.slice none 0 0)) (ht : P.underlying t = some (.slice e)) : Y P n E ⟨ρd, .binOp .eql t x y t2, ty, pos, af, g⟩ w (.bool true) w := fun a hA => by
 obtain ⟨dp, hd⟩ : ∃ dp, Op.maxDepth = dp + 1 := ⟨_, rfl⟩
 simp only [execOp, hA.eval hx, hA.eval hy]
 simp [eqGuard, binOp, Op.equal, hd, Op.equalIn, underlying, ht]
omit [GoT α] in
theorem Jz {a0 : Addr} {n0 c0 : Nat} (hx : ev E x = some (.slice (some a0) n0 c0)) (hy : ev E y = some (.slice none 0 0)) (ht : P.underlying t = some (.slice e)) : Y P n E ⟨ρd, .binOp .eql t x y t2, ty, pos, af, g⟩ w (.bool false) w := fun a hA => by
 obtain ⟨dp, hd⟩ : ∃ dp, Op.maxDepth = dp + 1 := ⟨_, rfl⟩
 simp only [execOp, hA.eval hx, hA.eval hy]
 simp [eqGuard, binOp, Op.equal, hd, Op.equalIn, underlying, ht]
theorem ziv {B : Nat} (ht : P.underlying t = some (.slice e)) (hs : ∀ w, (Go.sizeOf e).run P w = .ok (GoT.cells α) w) (hB : B ≤ w.heap.size) (hA : ∀ b, w.heap.size ≤ b → A b) (hn : Nat.blt d n.sz = true)
  (h : ∀ v w1 A1, Ow e B A1 w1 v ([] : List α) → Mv Dw B A w A1 w1 none → (∀ g, v.ownBlock = some g → w.heap.size ≤ g) → V P n ops Q rest ((d, v) :: E) w1) :
  V P n ops Q (⟨some d, .buildSlice t 0 #[], ty, pos, af, none⟩ :: rest) E w := by
 have hk := Kp.alloc (Dw := Dw) w (.cells #[] e)
 have hmv : Mv Dw B A w (fun b => A b ∧ b ≠ w.heap.size) (w.alloc (.cells #[] e)) none :=
  ⟨hk.os, hk.tape, hk.output, hk.size, hk.dr, fun k h _ => hk.block k h, (fun k h => by cases h), fun k h => h.1, fun k hk ha => ⟨ha, by omega⟩, fun b hb => ⟨hA b (Nat.le_trans hk.size hb), by
   have : w.heap.size < (w.alloc (.cells #[] e)).heap.size := (Array.getElem?_eq_some_iff.1 (heap_alloc_new w (.cells #[] e))).1
   omega⟩⟩
 refine V_y (w' := w.alloc (.cells #[] e)) (v := .slice (some ⟨w.heap.size, 0, none⟩) 0 0) (fun a hA' => ?_) rfl rfl hn (h _ _ _ (.inr ⟨w.heap.size, 0, #[], [], rfl, hB, fun h => h.2 rfl, heap_alloc_new w _, Nat.le_refl _, Nat.zero_le _, by simp, rfl, by simp⟩) hmv ?_)
 ·simp only [execOp, Instr.buildSlice]
  simp [underlying, ht, hs, Instr.fill, newRow]
  rw [show Array.range 0 = #[] from by with_unfolding_all rfl]
  simp
 ·intro g hg
  simp [Value.ownBlock] at hg
  omega
theorem zjB {B : Nat} {l : List α} {len : Nat} {parts : Array (Nat × Operand)} {zv : Value} {vs : List Value} {cells : Array Value} (ht : P.underlying t = some (.slice e)) (hs : ∀ w, (Go.sizeOf e).run P w = .ok (GoT.cells α) w) (hz : ∀ w, (zeroValue e).run P w = .ok zv w)
  (hv : evs E (parts.toList.map (·.2)) = some vs)
  (hf : Instr.fill (fun i => some (i * GoT.cells α, GoT.cells α)) ((Array.range (len * GoT.cells α)).map (zv.cells[· % zv.cells.size]!)) ((parts.toList.map (·.1)).zip vs) = some cells)
  (h0 : len * GoT.cells α ≠ 0) (hle : len * GoT.cells α ≤ 2 ^ 24) (hB : B ≤ w.heap.size) (hA : ∀ b, w.heap.size ≤ b → A b) (hr : repL A w cells.toList l) (hlen : l.length = len) (hn : Nat.blt d n.sz = true)
  (h : ∀ v w1 A1, Ow e B A1 w1 v l → Mv Dw B A w A1 w1 none → (∀ g, v.ownBlock = some g → w.heap.size ≤ g) → V P n ops Q rest ((d, v) :: E) w1) :
  V P n ops Q (⟨some d, .buildSlice t len parts, ty, pos, af, none⟩ :: rest) E w := by
 have hk := Kp.alloc (Dw := Dw) w (.cells cells e)
 have hmv : Mv Dw B A w (fun b => A b ∧ b ≠ w.heap.size) (w.alloc (.cells cells e)) none :=
  ⟨hk.os, hk.tape, hk.output, hk.size, hk.dr, fun k h _ => hk.block k h, (fun k h => by cases h), fun k h => h.1, fun k hk ha => ⟨ha, by omega⟩, fun b hb => ⟨hA b (Nat.le_trans hk.size hb), by
   have : w.heap.size < (w.alloc (.cells cells e)).heap.size := (Array.getElem?_eq_some_iff.1 (heap_alloc_new w (.cells cells e))).1
   omega⟩⟩
 have hlen2 : l.length ≤ maxLen := by
  have h1 : 1 ≤ GoT.cells α := Nat.one_le_iff_ne_zero.2 fun h => h0 (by rw [h, Nat.mul_zero])
  have h2 : len ≤ len * GoT.cells α := Nat.le_mul_of_pos_right _ h1
  rw [hlen]
  exact Nat.le_trans (Nat.le_trans h2 hle) (by decide)
 subst hlen
 refine V_y (w' := w.alloc (.cells cells e)) (v := .slice (some ⟨w.heap.size, 0, none⟩) l.length l.length) (fun a hA' => ?_) rfl rfl hn (h _ _ _ (.inr ⟨w.heap.size, l.length, cells, cells.toList, rfl, hB, fun h => h.2 rfl, heap_alloc_new w _, Nat.le_refl _, hlen2, by have := hr.len; simpa using this, hr.keep hmv.ex, List.take_of_length_le (by have := hr.len; simp at this ⊢; omega)⟩) hmv ?_)
 ·have hp : (parts.map fun (i, x) => (i, a.eval x)).toList = (parts.toList.map (·.1)).zip vs := by
   rw [← hA'.evals hv]
   simp only [Array.toList_map]
   generalize parts.toList = ps
   induction ps with
   | nil => rfl
   | cons p r ih => obtain ⟨i, x⟩ := p; simp [ih]
  simp only [execOp, Instr.buildSlice]
  rw [hp]
  simp [underlying, ht, hs, hz, h0, Nat.not_lt.2 hle, hf, newRow]
 ·intro g hg
  simp [Value.ownBlock] at hg
  omega
theorem zjM {B : Nat} {l r : List α} {i : Int} {b off sz foff : Nat} {el x' : α} {nv : Value} (ho : Ow e B A w v l) (hloc : Loc v b off i (GoT.cells α)) (hidx : idx l i = some el) (hr : setI l i x' = some r)
  (hrep : ∀ c1, GoT.rep A w c1 el → GoT.rep A w (c1.take foff ++ nv.cells.toList ++ c1.drop (foff + sz)) x') (hs : ∀ w, (Go.sizeOf t).run P w = .ok sz w) (hsz : nv.cells.size = sz) (hone : ∀ u ∈ nv.cells.toList, u.oneCell' = true) (hfit : foff + sz ≤ GoT.cells α) (hA : ∀ b, w.heap.size ≤ b → A b)
  (hx : ev E x = some (.pointer (some ⟨b, off + foff, none⟩))) (hy : ev E y = some nv)
  (h : ∀ w1, Ow e B A w1 v r → Mv Dw B A w A w1 v.ownBlock → V P n ops Q rest E w1) : V P n ops Q (⟨none, .store t x y, ty, pos, af, none⟩ :: rest) E w := by
 obtain ⟨⟨len, cap0, rfl⟩, rfl⟩ := hloc
 unfold setI at hr
 split at hr
 rotate_left
 ·cases hr
 rename_i hi
 obtain rfl := Option.some.inj hr
 rcases ho with ⟨hv, _⟩ | ⟨g, cap, cur, cs, hv, h2, h3, h4, h5, h6, h7, h8, h9⟩
 ·cases hv
 simp only [Value.slice.injEq, Option.some.injEq, Addr.mk.injEq, and_true] at hv
 obtain ⟨rfl, rfl, rfl⟩ := hv
 have hcl : nv.cells.toList.length = sz := by simpa using hsz
 have hin : i.toNat * GoT.cells α + GoT.cells α ≤ l.length * GoT.cells α := by
  rw [← Nat.succ_mul]; exact Nat.mul_le_mul_right _ (by omega)
 have hcap : l.length * GoT.cells α ≤ cur.size := by rw [h7]; exact Nat.mul_le_mul_right _ h5
 have hst := run_storeCells_at P b (i.toNat * GoT.cells α + foff) e nv.cells.toList 0 cur w h4 (by rw [Nat.add_zero, hcl]; omega) hone
 rw [Nat.add_zero] at hst
 generalize hrow : (cur.toList.take (i.toNat * GoT.cells α + foff) ++ nv.cells.toList ++ cur.toList.drop (i.toNat * GoT.cells α + foff + nv.cells.toList.length)).toArray = row at hst
 have hrs : row.size = cap0 * GoT.cells α := by
  rw [← hrow, ← h7]
  simp only [List.size_toArray, List.length_append, List.length_take, List.length_drop, Array.length_toList, hcl]
  omega
 have hmv : Mv Dw B A w A (w.setRow b row) (some b) :=
  ⟨rfl, rfl, rfl, by simp, fun _ => Nat.le_refl _, fun k hk hne => setRow_other w b k _ (fun e => hne (by rw [e])), fun k hk => by cases hk; exact ⟨h2, h3⟩, fun _ h => h, fun _ _ h => h, fun b' hb' => hA b' (by simpa using hb')⟩
 obtain ⟨_, _, hel⟩ := zbf hidx
 obtain ⟨p1, p2, p3, hcs, hp1, hp2⟩ := h8.at hel
 have hl2 := GoT.len hp2
 have hnew := hrep p2 hp2
 have hset := h8.set hi.2 hnew
 refine V_s (w' := w.setRow b row) (fun a hA' => ?_) rfl rfl (h _ (.inr ⟨b, cap0, row, _, by rw [List.length_set], h2, h3, setRow_heap w b cur _ e _ h4, by rw [List.length_set]; exact h5, h6, hrs, hset.keep hmv.ex, ?_⟩) hmv)
 ·simp only [execOp, hA'.eval hx, hA'.eval hy, Instr.storeAt, Instr.sureAddr]
  simp [storeVar, hs, hsz, hst]
 ·have hnl : (p2.take foff ++ nv.cells.toList ++ p2.drop (foff + sz)).length = GoT.cells α := by
   simp only [List.length_append, List.length_take, List.length_drop, hcl, hl2]; omega
  have hcsl : (cur.toList.take (l.length * GoT.cells α)).length = l.length * GoT.cells α := by simp; omega
  have hp2e : p2 = ((cur.toList.take (l.length * GoT.cells α)).drop (i.toNat * GoT.cells α)).take (GoT.cells α) := by
   rw [h9, hcs, ← hp1, List.drop_left, ← hl2, List.take_left]
  rw [← hrow, List.length_set, hnl, ← h9, hp2e, hcl]
  exact zlO cur.toList nv.cells.toList (i.toNat * GoT.cells α) (GoT.cells α) foff sz (l.length * GoT.cells α) hin (by simpa using hcap) hfit hcl
omit [GoT α] in
theorem Tr.lower {B B2 : Nat} {A1 : Nat → Prop} {w1 : World} (t : Tr Dw B2 A w A1 w1) (hB : B ≤ B2) : Tr Dw B A w A1 w1 :=
 ⟨t.ex, Bel.mono t.below hB, fun k h => (t.sub k h).imp id (Nat.le_trans hB), t.new⟩
end steps
end Go.Gw
