import Derived.Test.YtjdjmddclfhpeaaGreatDoorGi
import Derived.Test.YtjdjmddclfhpeaaGreatDoorPj
import Derived.Laws.IdiomStrings
namespace Go.Gw
open Go Go.RowKit Go.Pu
variable {Dw : Prop}
set_option linter.unusedSimpArgs false
set_option linter.unusedVariables false
def bcells (l : List UInt8) : List Value := l.map fun b => Value.int .u8 (b.toNat : Int)
def obU (e : TypeId) (v : Value) (l : List UInt8) : Ob where
 P f A w := ∃ g cap cur fz, v = .slice (some ⟨g, 0, none⟩) l.length cap ∧ f = [g] ∧ w.heap[g]? = some (.cells cur e fz) ∧ cur.size ≤ fz.1 ∧ l.length ≤ cap ∧ cap ≤ maxLen ∧ cur.size = cap ∧ cur.toList.take l.length = bcells l
 keep h he hb := by
  obtain ⟨g, cap, cur, fz, rfl, rfl, h3, h⟩ := h
  exact ⟨g, cap, cur, fz, rfl, rfl, by rw [hb g (by simp)]; exact h3, h⟩
 lt h b' hb' := by
  obtain ⟨g, cap, cur, fz, rfl, rfl, h3, h⟩ := h
  simp at hb'; subst hb'; exact (Array.getElem?_eq_some_iff.1 h3).1
theorem repL_bcells {A : Nat → Prop} {w : World} : ∀ l : List UInt8, repL A w (bcells l) l
 | [] => rfl
 | b :: l => ⟨[_], bcells l, rfl, rfl, repL_bcells l⟩
section
variable {P : Program} {n : Fr} {ops : Array Oper} {Q : Exit → Act → World → Prop} {E : Env} {w : World} {rest : List Oper} {v u : Value} {d : Nat}
variable {ty t ts e : TypeId} {pos : String} {af : Array Edge} {x y z : Operand} {A : Nat → Prop} {B : Nat} {L : List Ob} {i : Nat} {l r : List UInt8}
theorem Hp.anyU (h : Hp B A w L) (hi : L[i]? = some (obU e v l)) : Sl (fun _ => True) w v l := by
 obtain ⟨f, ⟨g, cap, cur, fz, rfl, rfl, h3, h4, h5, h6, h7, h8⟩, hb, _⟩ := h.at hi
 refine .inr ⟨g, 0, cap, bcells l, rfl, trivial, (Array.getElem?_eq_some_iff.1 h3).1, h5, h6, repL_bcells l, ?_⟩
 intro j u hj
 rw [← h8, List.getElem?_take] at hj
 split at hj
 ·simp only [World.cell?, h3, Nat.zero_add]
  simpa using hj
 ·cases hj
theorem Hp.formU (h : Hp B A w L) (hi : L[i]? = some (obU e v l)) : ∃ a cap, v = .slice a l.length cap ∧ l.length ≤ maxLen := (h.anyU hi).form
theorem Hp.leU (h : Hp B A w L) (hi : L[i]? = some (obU e v l)) : l.length ≤ maxLen := let ⟨_, _, _, h⟩ := h.formU hi; h
theorem Hp.freezeU (h : Hp B A w L) (hi : L[i]? = some (obU e v l)) (hA : ∀ b, w.heap.size ≤ b → A b) : ∃ A1 : Nat → Prop, Tr Dw B A w A1 w ∧ Sl A1 w v l ∧ Hp B A1 w (L.eraseIdx i) := by
 obtain ⟨A1, f, hp, hf, hs, ht, hh⟩ := h.frz (Dw := Dw) hi hA
 obtain ⟨g, cap, cur, fz, rfl, rfl, h3, h4, h5, h6, h7, h8⟩ := hp
 refine ⟨A1, ht, .inr ⟨g, 0, cap, bcells l, rfl, (hf g (by simp)).1, (Array.getElem?_eq_some_iff.1 h3).1, h5, h6, repL_bcells l, ?_⟩, hh⟩
 intro j u hj
 rw [← h8, List.getElem?_take] at hj
 split at hj
 ·simp only [World.cell?, h3, Nat.zero_add]
  simpa using hj
 ·cases hj
theorem V_convU {s : ByteArray} (hH : Hp B A w L) (hr : bytesL s = some r) (hs : P.underlying ts = some .string) (hd : P.underlying t = some (.slice e)) (he : P.underlying e = some (.int .u8)) (hB : B ≤ w.heap.size) (hA : ∀ b, w.heap.size ≤ b → A b)
  (hx : ev E x = some (.string s)) (hn : Nat.blt d n.sz = true)
  (h : ∀ v w1 A1, Hp B A1 w1 (obU e v r :: L) → Tr Dw B A w A1 w1 → V P n ops Q rest ((d, v) :: E) w1) :
  V P n ops Q (⟨some d, .convert ts t x, ty, pos, af, none⟩ :: rest) E w := by
 unfold bytesL at hr
 split at hr
 case isFalse => cases hr
 rename_i hsz
 obtain rfl := Option.some.inj hr
 have hrun := run_bytes_of_string (P := P) w ts t e s hs hd he
 have hge := grownCap_ge w s.size 0 e
 have hcm := grownCap_le_maxLen w s.size 0 e (by unfold maxLen; exact hsz)
 generalize grownCap w s.size 0 e = cap at hrun hge hcm
 have hl : s.data.toList.length = s.size := by show s.data.toList.length = s.data.size; simp
 have hrow : (bytesRow s cap).size = cap := by
  unfold bytesRow
  simp
  show s.size + _ = _
  omega
 have hk : Kp Dw w (w.drew.alloc (.cells (bytesRow s cap) e ((bytesRow s cap).size, (bytesRow s cap).size + 1))) := (Kp.drew w).trans (Kp.alloc w.drew _)
 have hnew := heap_alloc_new w.drew (.cells (bytesRow s cap) e ((bytesRow s cap).size, (bytesRow s cap).size + 1))
 have hmv : Mv Dw B A w (fun b => A b ∧ b ≠ w.heap.size) (w.drew.alloc (.cells (bytesRow s cap) e ((bytesRow s cap).size, (bytesRow s cap).size + 1))) none :=
  ⟨hk.os, hk.tape, hk.output, hk.size, hk.dr, fun k h _ => hk.block k h, (fun k h => by cases h), fun k h => h.1, fun k hk ha => ⟨ha, by omega⟩, fun b hb => ⟨hA b (Nat.le_trans hk.size hb), by
   have : w.heap.size < (w.drew.alloc (.cells (bytesRow s cap) e ((bytesRow s cap).size, (bytesRow s cap).size + 1))).heap.size := (Array.getElem?_eq_some_iff.1 hnew).1
   omega⟩⟩
 refine V_y (v := .slice (some ⟨w.heap.size, 0, none⟩) s.size cap) (w' := _) (fun a hA' => ?_) rfl rfl hn (h _ _ _ (hH.new hmv hB (O' := obU e _ s.data.toList) (f' := [w.heap.size]) ⟨w.heap.size, cap, _, _, by rw [hl], rfl, hnew, Nat.le_refl _, by rw [hl]; exact hge, hcm, hrow, ?_⟩ ?_) (hmv.tr hB))
 ·simp only [execOp, hA'.eval hx]
  simp [hrun, Result.andThen]
 ·unfold bytesRow bcells
  rw [Array.toList_append, Array.toList_map]
  exact List.take_left' (by simp)
 ·intro b hb
  simp at hb
  subst hb
  exact ⟨Nat.le_refl _, fun h => h.2 rfl⟩
theorem V_indexAddrU {k : IntKind} {ix : Int} {el : UInt8} (hH : Hp B A w L) (hi : L[i]? = some (obU e v l)) (hidx : idx l ix = some el) (ht : P.underlying t = some (.slice e)) (hsz : ∀ w, (Go.sizeOf e).run P w = .ok (GoT.cells UInt8) w)
  (hx : ev E x = some v) (hy : ev E y = some (.int k ix)) (hn : Nat.blt d n.sz = true) (h : ∀ b off, El (fun _ => True) w b off el → Loc v b off ix (GoT.cells UInt8) → V P n ops Q rest ((d, .pointer (some ⟨b, off, none⟩)) :: E) w) :
  V P n ops Q (⟨some d, .indexAddr t x y, ty, pos, af, none⟩ :: rest) E w := by
 have hany := hH.anyU hi
 obtain ⟨f, ⟨g, cap, cur, fz, rfl, _⟩, _, _⟩ := hH.at hi
 obtain ⟨h0, h1, h2⟩ := idx_some hidx
 have hadd : Y P n E ⟨some d, .indexAddr t x y, ty, pos, af, none⟩ w (.pointer (some ⟨g, 0 + ix.toNat * GoT.cells UInt8, none⟩)) w := fun a hA => by
  simp only [execOp, hA.eval hx, hA.eval hy, Instr.indexAt, asIntOf]
  simp [underlying, ht, hsz, h0, h1, addr_add]
 rcases hany with ⟨a, c, hv, hl, _⟩ | ⟨b', off', cap', cs', hv, hb', hlt', hlc', hcm', hrep', hat'⟩
 ·rw [hl] at h2; simp at h2
 simp only [Value.slice.injEq, Option.some.injEq, Addr.mk.injEq, and_true] at hv
 obtain ⟨⟨rfl, rfl⟩, _, _⟩ := hv
 obtain ⟨c1, c2, c3, rfl, hl, hr⟩ := hrep'.at h2
 refine V_y hadd rfl rfl hn (h g (0 + ix.toNat * GoT.cells UInt8) ⟨trivial, hlt', c2, hr, ?_⟩ ⟨⟨_, _, rfl⟩, by rw [Nat.zero_add]⟩)
 rw [← hl]
 exact hat'.right.left
theorem run_store_byte {b off : Nat} {cur : Array Value} {fz : Nat × Nat} {nv c : Value} (hg : w.heap[b]? = some (.cells cur e fz)) (hf : cur.size ≤ fz.1) (ho : off < cur.size) (h1 : c.oneCell' = true) (hc : nv.cells.toList = [c]) (hs : (Go.sizeOf t).run P w = .ok 1 w) :
  (storeVar t ⟨b, off, none⟩ nv).run P w = .ok () (w.setRow b (cur.setIfInBounds off c)) := by
 have hcell : w.cell? ⟨b, off, none⟩ = some cur[off] := by simp [World.cell?, hg, ho]
 have hfro : w.frozen? ⟨b, off, none⟩ = false := by
  simp [World.frozen?, hg]
  omega
 have hadd : (⟨b, off, none⟩ : Addr).add 0 = ⟨b, off, none⟩ := by rw [addr_add]; rfl
 have hst : (store ((⟨b, off, none⟩ : Addr).add 0) c).run P w = .ok () (w.setRow b (cur.setIfInBounds off c)) := by
  rw [hadd, run_store P w _ c _ h1, hcell]
  simp [hfro, setCell_eq_setRow w b off cur e fz c hg]
 have hsz : nv.cells.size = 1 := by have := congrArg List.length hc; simpa using this
 simp [storeVar, hs, hc, hsz, storeCells, hst]
theorem V_storeU {ix : Int} {b off sz : Nat} {x' : UInt8} {nv : Value} (hH : Hp B A w L) (hi : L[i]? = some (obU e v l)) (hloc : Loc v b off ix (GoT.cells UInt8)) (hr : setI l ix x' = some r) (hrep : GoT.rep A w nv.cells.toList x') (hs : ∀ w, (Go.sizeOf t).run P w = .ok sz w) (hsz : sz = GoT.cells UInt8) (hB : B ≤ w.heap.size) (hA : ∀ b, w.heap.size ≤ b → A b)
  (hx : ev E x = some (.pointer (some ⟨b, off, none⟩))) (hy : ev E y = some nv)
  (h : ∀ w1, Hp B A w1 (L.set i (obU e v r)) → Tr Dw B A w A w1 → V P n ops Q rest E w1) : V P n ops Q (⟨none, .store t x y, ty, pos, af, none⟩ :: rest) E w := by
 obtain ⟨f, ⟨g, cap, cur, fz, rfl, rfl, h3, h4, h5, h6, h7, h8⟩, hb, hset⟩ := hH.at hi
 obtain ⟨⟨len, cap0, hv⟩, hoff⟩ := hloc
 simp only [Value.slice.injEq, Option.some.injEq, Addr.mk.injEq, and_true] at hv
 obtain ⟨rfl, rfl, rfl⟩ := hv
 have hoff : off = ix.toNat := by rw [hoff]; show ix.toNat * 1 = _; omega
 subst hoff
 unfold setI at hr
 split at hr
 rotate_left
 ·cases hr
 rename_i hin
 obtain rfl := Option.some.inj hr
 have hnc : nv.cells.toList = [.int .u8 (x'.toNat : Int)] := hrep
 have hrun := run_store_byte (P := P) (t := t) h3 h4 (off := ix.toNat) (by omega) (by simp [Value.oneCell']) hnc (by rw [hs, hsz]; rfl)
 have hmv : Mv Dw B A w A (w.setRow g (cur.setIfInBounds ix.toNat (.int .u8 (x'.toNat : Int)))) (some g) :=
  ⟨rfl, rfl, rfl, by simp, fun _ => Nat.le_refl _, fun k hk hne => setRow_other w g k _ (fun e => hne (by rw [e])), fun k hk => by cases hk; exact ⟨(hb g (by simp)).1, (hb g (by simp)).2.2⟩, fun _ h => h, fun _ _ h => h, fun b' hb' => hA b' (by simpa using hb')⟩
 refine V_s (w' := w.setRow g (cur.setIfInBounds ix.toNat (.int .u8 (x'.toNat : Int)))) (fun a hA' => ?_) rfl rfl (h _ (hset A _ (some g) (obU e _ _) [g] hmv (fun k hk => by cases hk; simp) ⟨g, cap, _, fz, by rw [List.length_set], rfl, setRow_heap w g cur _ e fz h3, by simpa using h4, by rw [List.length_set]; exact h5, h6, by simpa using h7, ?_⟩ fun b hb' => ⟨.inl hb', ?_⟩) (hmv.tr hB))
 ·simp only [execOp, hA'.eval hx, hA'.eval hy, Instr.storeAt, Instr.sureAddr]
  simp [hrun]
 ·rw [List.length_set, Array.toList_setIfInBounds, List.take_set, h8]
  unfold bcells
  rw [List.map_set]
 ·have := hb b hb'
  exact ⟨this.1, this.2.2⟩
end
section
variable {P : Program} {n : Fr} {E : Env} {w : World} {x y : Operand} {ty t t2 : TypeId} {pos : String} {af : Array Edge} {ρd : Option Nat} {g : Option (Nat × Bool)} {p q : Int}
theorem Y_addB (hx : ev E x = some (.int .u8 p)) (hy : ev E y = some (.int .u8 q)) : Y P n E ⟨ρd, .binOp .add t x y t2, ty, pos, af, g⟩ w (.int .u8 ((toU8 (p + q)).toNat : Int)) w := by
 rw [toU8_nat]; exact Y_add hx hy
theorem Y_subB (hx : ev E x = some (.int .u8 p)) (hy : ev E y = some (.int .u8 q)) : Y P n E ⟨ρd, .binOp .sub t x y t2, ty, pos, af, g⟩ w (.int .u8 ((toU8 (p - q)).toNat : Int)) w := by
 rw [toU8_nat]; exact Y_sub hx hy
end
end Go.Gw
