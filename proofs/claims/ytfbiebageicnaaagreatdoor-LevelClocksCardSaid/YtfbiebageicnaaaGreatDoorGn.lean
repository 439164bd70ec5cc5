import Derived.Test.YtfbiebageicnaaaGreatDoorGm
namespace Go.Gw
open Go Go.RowKit Go.Pu
variable {Dw : Prop}
set_option linter.unusedSimpArgs false
set_option linter.unusedVariables false
structure Mv (Dw : Prop) (B : Nat) (A : Nat → Prop) (w : World) (A1 : Nat → Prop) (w1 : World) (ob : Option Nat) : Prop where
 os : w1.os = w.os
 tape : w1.tape = w.tape
 output : w1.output = w.output
 size : w.heap.size ≤ w1.heap.size
 dr : Dw → w.drawn ≤ w1.drawn
 blk : ∀ k, k < w.heap.size → some k ≠ ob → w1.heap[k]? = w.heap[k]?
 old : ∀ k, ob = some k → B ≤ k ∧ ¬ A k
 sub : ∀ k, A1 k → A k
 sup : ∀ k, k < w.heap.size → A k → A1 k
 new : ∀ b, w1.heap.size ≤ b → A1 b
structure Tr (Dw : Prop) (B : Nat) (A : Nat → Prop) (w : World) (A1 : Nat → Prop) (w1 : World) : Prop where
 ex : Ex A w A1 w1
 below : Bel Dw B w w1
 sub : ∀ k, A1 k → A k ∨ B ≤ k
 new : ∀ b, w1.heap.size ≤ b → A1 b
theorem Mv.ex {B : Nat} {A A1 : Nat → Prop} {w w1 : World} {ob : Option Nat} (h : Mv Dw B A w A1 w1 ob) : Ex A w A1 w1 :=
 ⟨h.size, fun k hk ha => ⟨h.sup k hk ha, h.blk k hk fun e => (h.old k e.symm).2 ha⟩⟩
theorem Mv.tr {B : Nat} {A A1 : Nat → Prop} {w w1 : World} {ob : Option Nat} (h : Mv Dw B A w A1 w1 ob) (hB : B ≤ w.heap.size) : Tr Dw B A w A1 w1 :=
 ⟨h.ex, ⟨h.os, h.tape, h.output, h.size, h.dr, fun k hk => h.blk k (by omega) fun e => by have := (h.old k e.symm).1; omega⟩, fun k hk => .inl (h.sub k hk), h.new⟩
theorem Mv.kp {B : Nat} {A : Nat → Prop} {w w1 : World} (hk : Kp Dw w w1) (hA : ∀ b, w.heap.size ≤ b → A b) : Mv Dw B A w A w1 none :=
 ⟨hk.os, hk.tape, hk.output, hk.size, hk.dr, fun k h _ => hk.block k h, (fun _ h => by cases h), fun _ h => h, fun _ _ h => h, fun b hb => hA b (Nat.le_trans hk.size hb)⟩
theorem Tr.refl {B : Nat} {A : Nat → Prop} {w : World} (hA : ∀ b, w.heap.size ≤ b → A b) : Tr Dw B A w A w :=
 ⟨⟨Nat.le_refl _, fun _ _ h => ⟨h, rfl⟩⟩, Bel.refl _ _, fun _ h => .inl h, hA⟩
theorem Tr.trans {B : Nat} {A A1 A2 : Nat → Prop} {w w1 w2 : World} (h : Tr Dw B A w A1 w1) (k : Tr Dw B A1 w1 A2 w2) : Tr Dw B A w A2 w2 :=
 ⟨⟨Nat.le_trans h.ex.size k.ex.size, fun i hi ha => by
   obtain ⟨a1, b1⟩ := h.ex.block i hi ha
   obtain ⟨a2, b2⟩ := k.ex.block i (Nat.lt_of_lt_of_le hi h.ex.size) a1
   exact ⟨a2, b2.trans b1⟩⟩, h.below.trans k.below, fun i hi => by
   rcases k.sub i hi with h1 | h1
   ·exact h.sub i h1
   ·exact .inr h1, k.new⟩
theorem Sl.tr {α : Type} [GoT α] {B : Nat} {A A1 : Nat → Prop} {w w1 : World} {v : Value} {l : List α} (h : Sl A w v l) (m : Tr Dw B A w A1 w1) : Sl A1 w1 v l := h.keep m.ex
theorem El.tr {α : Type} [GoT α] {B : Nat} {A A1 : Nat → Prop} {w w1 : World} {b off : Nat} {x : α} (h : El A w b off x) (m : Tr Dw B A w A1 w1) : El A1 w1 b off x := h.keep m.ex
def Ow {α : Type} [GoT α] (e : TypeId) (B : Nat) (A : Nat → Prop) (w : World) (v : Value) (l : List α) : Prop :=
 (v = .slice none 0 0 ∧ l = []) ∨
 ∃ g cap cur cs, v = .slice (some ⟨g, 0, none⟩) l.length cap ∧ B ≤ g ∧ ¬ A g ∧ w.heap[g]? = some (.cells cur e (0, 0)) ∧ l.length ≤ cap ∧ cap ≤ maxLen ∧ cur.size = cap * GoT.cells α ∧ repL A w cs l ∧ cur.toList.take (l.length * GoT.cells α) = cs
def Dj (v : Value) (ob : Option Nat) : Prop := ∀ g, v.ownBlock = some g → some g ≠ ob
section
variable {α : Type} [GoT α] {A A1 : Nat → Prop} {w w1 : World} {e : TypeId} {B : Nat} {v u : Value} {l : List α} {ob : Option Nat}
theorem Ow.sl {A2 : Nat → Prop} (h : Ow e B A w v l) (hs : ∀ k, A k → A2 k) (hb : ∀ g, v.ownBlock = some g → A2 g) : Sl A2 w v l := by
 rcases h with ⟨rfl, rfl⟩ | ⟨g, cap, cur, cs, rfl, h2, h3, h4, h5, h6, h7, h8, h9⟩
 ·exact Sl.nil
 ·refine .inr ⟨g, 0, cap, cs, rfl, hb g rfl, (Array.getElem?_eq_some_iff.1 h4).1, h5, h6, h8.keep (.sub fun k _ hk => hs k hk), ?_⟩
  intro j u hj
  rw [← h9] at hj
  rw [List.getElem?_take] at hj
  split at hj
  ·simp only [World.cell?, h4, Nat.zero_add]
   simpa using hj
  ·cases hj
theorem Ow.any (h : Ow e B A w v l) : Sl (fun _ => True) w v l := h.sl (fun _ _ => trivial) (fun _ _ => trivial)
end
theorem appendL_some {α : Type} {lim : Nat} {l m r : List α} (h : appendL lim l m = some r) : l.length + m.length ≤ lim ∧ r = l ++ m := by
 unfold appendL at h
 split at h
 ·rename_i h1
  exact ⟨h1, (Option.some.inj h).symm⟩
 ·cases h
section
variable {P : Program}
theorem run_append_ow (w : World) (base : Nat) (t ty e : TypeId) (i : TypeInfo) (z : Value) (size bytes : Nat) (ht : P.underlying t = some (.slice e)) (hi : P.info? e = some i) (hz : i.zero = some z)
  (hsize : i.size = size) (hby : i.bytes = bytes) (hzs : z.cells.size = size) (hsz : 0 < size)
  (v : Value) (n : Nat) (xs : List Value) (hown : w.ownsRow base e size v n xs)
  (a : Addr) (m c : Nat) (news : List Value) (hl : news.length = m * size) (hnews : ∀ j u, news[j]? = some u → w.cell? (a.add j) = some u) (h1 : ∀ u ∈ news, u.oneCell' = true)
  (h63 : n + m ≤ maxLen) (hbytes : (n + m) * bytes ≤ 140737488355328) (hbase : base ≤ w.heap.size) :
  ∃ v' w', (Builtin.append_ #[t, t] ty #[v, .slice (some a) m c]).run P w = .ok v' w' ∧ w'.ownsRow base e size v' (n + m) (xs ++ news) ∧ w.grownBy w' v.ownBlock ∧
   (∀ g, v'.ownBlock = some g → v.ownBlock = some g ∨ w.heap.size ≤ g) ∧ w.drawn ≤ w'.drawn := by
 subst hsize
 subst hby
 have hsmall : n + m ≤ 9223372036854775807 := by simp only [maxLen] at h63; omega
 have hlen : (xs ++ news).length = (n + m) * i.size := by rw [List.length_append, hown.1, hl, Nat.add_mul]
 have grown : ∀ (old : Nat), old < n + m → ∀ (row : Option Nat),
   (w.drew.alloc (.cells (xs.toArray ++ news.toArray ++ Builtin.zeroCells z.cells (grownCap w (n + m) old e - (n + m))) e)).ownsRow base e i.size
    (.slice (some ⟨w.heap.size, 0, none⟩) (n + m) (grownCap w (n + m) old e)) (n + m) (xs ++ news) ∧
   w.grownBy (w.drew.alloc (.cells (xs.toArray ++ news.toArray ++ Builtin.zeroCells z.cells (grownCap w (n + m) old e - (n + m))) e)) row := by
  intro old ho row
  have hge := grownCap_ge w (n + m) old e
  have hcm : grownCap w (n + m) old e ≤ maxLen := grownCap_le_maxLen w (n + m) old e h63
  refine ⟨⟨hlen, .inr ⟨w.heap.size, _, _, rfl, hbase, heap_alloc_new w.drew _, hge, hcm, ?_, ?_⟩⟩, ⟨rfl, rfl, rfl, by simp, fun k hk _ => heap_alloc_old w.drew _ hk⟩⟩
  ·simp only [Array.size_append, List.size_toArray, size_zeroCells, hzs, hown.1, hl, ← Nat.add_mul]
   congr 1
   omega
  ·simp only [Array.toList_append, List.append_assoc]
   rw [← List.append_assoc, ← hlen]
   exact List.take_left
 rcases hown.2 with ⟨rfl, rfl⟩ | ⟨g, cap, cur, rfl, hbg, hg, hnc, hcm, hcs, htake⟩
 ·have hx : xs = [] := List.eq_nil_of_length_eq_zero (by simpa using hown.1)
  subst hx
  by_cases hm : m = 0
  ·subst hm
   have hn : news = [] := List.eq_nil_of_length_eq_zero (by simpa using hl)
   subst hn
   refine ⟨.slice none 0 0, w, ?_, World.ownsRow_nil w base e i.size, ⟨rfl, rfl, rfl, Nat.le_refl _, fun _ _ _ => rfl⟩, fun g h => .inl h, Nat.le_refl _⟩
   simp [Builtin.append_, run_underlying ht, sizeOf, typeInfo, hi, Builtin.lenOf, Builtin.firstCells, loadCells, loadCellsFrom]
  ·have hr := run_append_nil (P := P) w t ty e i z ht hi hz a m c news hl hnews (by omega) (by omega) (by have hb := hbytes; simp only [Nat.zero_add] at hb; omega)
   have hgr := grown 0 (by omega) (Value.ownBlock (.slice none 0 0))
   simp only [Nat.zero_add, List.nil_append, Array.empty_append] at hgr ⊢
   exact ⟨_, _, hr, hgr.1, hgr.2, fun g h => .inr (by simp [Value.ownBlock] at h; omega), Nat.le_succ _⟩
 ·by_cases hroom : n + m ≤ cap
  ·have hfit : n * i.size + news.length ≤ cur.size := by rw [hl, hcs, ← Nat.add_mul]; exact Nat.mul_le_mul_right _ hroom
   have hr := run_append_room (P := P) w t ty e i ht hi g n cap cur hg a m c news hl hnews h1 hroom hfit
   refine ⟨_, _, hr, ⟨hlen, .inr ⟨g, cap, _, rfl, hbg, setRow_heap w g cur _ e _ hg, hroom, hcm, ?_, ?_⟩⟩, ⟨rfl, rfl, rfl, by simp, fun k _ hk => setRow_other w g k _ (fun e => hk (by simp [Value.ownBlock, e]))⟩, fun g' h => .inl h, Nat.le_refl _⟩
   ·simp only [List.size_toArray, List.length_append, List.length_take, List.length_drop, Array.length_toList]
    omega
   ·rw [htake, ← hlen]
    exact List.take_left
  ·have holds : ∀ j u, xs[j]? = some u → w.cell? ((⟨g, 0, none⟩ : Addr).add j) = some u := hown.cells (g := g) rfl
   have hr := run_append_grow (P := P) w t ty e i z ht hi hz ⟨g, 0, none⟩ n cap xs hown.1 holds a m c news hl hnews (by omega) (by omega) (growslice_fits (by omega) hbytes)
   have hgr := grown cap (by omega) (Value.ownBlock (.slice (some ⟨g, 0, none⟩) n cap))
   exact ⟨_, _, hr, hgr.1, hgr.2, fun g' h => .inr (by simp [Value.ownBlock] at h; omega), Nat.le_succ _⟩
end
section steps
variable {P : Program} {n : Fr} {ops : Array Oper} {Q : Exit → Act → World → Prop} {E : Env} {w : World} {rest : List Oper} {v u : Value} {d : Nat} {W : World → Prop} {QA : Act → Prop}
variable {ty t e : TypeId} {pos : String} {af : Array Edge} {x y z : Operand} {A : Nat → Prop} {α : Type} [GoT α] {ρd : Option Nat} {g : Option (Nat × Bool)} {B : Nat}
theorem Ow.row {l : List α} (h : Ow e B A w v l) : ∃ xs, w.ownsRow B e (GoT.cells α) v l.length xs ∧ repL A w xs l ∧ ∀ g, v.ownBlock = some g → ¬ A g := by
 rcases h with ⟨rfl, rfl⟩ | ⟨g, cap, cur, cs, rfl, h2, h3, h4, h5, h6, h7, h8, h9⟩
 ·exact ⟨[], World.ownsRow_nil _ _ _ _, rfl, fun g h => by simp [Value.ownBlock] at h⟩
 ·refine ⟨cs, ⟨h8.len, .inr ⟨g, cap, cur, rfl, h2, h4, h5, h6, h7, h9⟩⟩, h8, fun g' h => ?_⟩
  simp [Value.ownBlock] at h
  subst h
  exact h3
theorem Ow.of_row {l : List α} {xs : List Value} (h : w.ownsRow B e (GoT.cells α) v l.length xs) (hr : repL A w xs l) (ha : ∀ g, v.ownBlock = some g → ¬ A g) : Ow e B A w v l := by
 obtain ⟨h1, h2⟩ := h
 rcases h2 with ⟨rfl, h⟩ | ⟨g, cap, cur, rfl, hb, hg, hc, hm, hs, ht⟩
 ·exact .inl ⟨rfl, List.eq_nil_of_length_eq_zero h⟩
 ·exact .inr ⟨g, cap, cur, xs, rfl, hb, ha g rfl, hg, hc, hm, hs, hr, ht⟩
theorem V_append {l m r : List α} {lim bytes : Nat} {i : TypeInfo} {zv : Value} (ho : Ow e B A w v l) (hm : Sl A w u m) (hr : appendL lim l m = some r) (ht : P.underlying t = some (.slice e)) (hi : P.info? e = some i) (hz : i.zero = some zv)
  (hsize : i.size = GoT.cells α) (hby : i.bytes = bytes) (hzs : zv.cells.size = GoT.cells α) (hsz : GoT.cells α ≠ 0) (hlim : lim * bytes ≤ 140737488355328) (hlm : lim ≤ maxLen) (hB : B ≤ w.heap.size) (hA : ∀ b, w.heap.size ≤ b → A b)
  (hx : ev E x = some v) (hy : ev E y = some u) (hn : Nat.blt d n.sz = true)
  (h : ∀ v' w1 A1, Ow e B A1 w1 v' r → Mv Dw B A w A1 w1 v.ownBlock → (∀ g, v'.ownBlock = some g → v.ownBlock = some g ∨ w.heap.size ≤ g) → V P n ops Q rest ((d, v') :: E) w1) :
  V P n ops Q (⟨some d, .call ⟨.builtin .append, #[x, y], #[t, t]⟩, ty, pos, af, none⟩ :: rest) E w := by
 obtain ⟨hle, rfl⟩ := appendL_some hr
 obtain ⟨xs, hown, hrep, hna⟩ := ho.row
 have main : ∃ v' w1, (Builtin.append_ #[t, t] ty #[v, u]).run P w = .ok v' w1 ∧ (∃ ys, w1.ownsRow B e (GoT.cells α) v' (l.length + m.length) (xs ++ ys) ∧ repL A w ys m) ∧ w.grownBy w1 v.ownBlock ∧ (∀ g, v'.ownBlock = some g → v.ownBlock = some g ∨ w.heap.size ≤ g) ∧ w.drawn ≤ w1.drawn := by
  rcases hm with ⟨a, cap, rfl, rfl, hcap, hnil⟩ | ⟨b, off, cap, cs, rfl, hb, hblt, hlc, hcm, hrm, hat⟩
  · -- nothing to append
   refine ⟨v, w, ?_, ⟨[], ?_, rfl⟩, ⟨rfl, rfl, rfl, Nat.le_refl _, fun _ _ _ => rfl⟩, fun g h => .inl h, Nat.le_refl _⟩
   ·have hroom : ∃ base c, v = .slice base l.length c ∧ l.length ≤ c := by
     rcases ho with ⟨rfl, rfl⟩ | ⟨g, c, cur, cs, rfl, _, _, _, h5, _⟩
     ·exact ⟨none, 0, rfl, Nat.le_refl _⟩
     ·exact ⟨_, _, rfl, h5⟩
    obtain ⟨base, c, rfl, hc⟩ := hroom
    clear h
    cases a with
    | none => simp [Builtin.append_, run_underlying ht, sizeOf, typeInfo, hi, Builtin.lenOf, hc, Builtin.firstCells]; cases base <;> simp [storeCells]
    | some a => simp [Builtin.append_, run_underlying ht, sizeOf, typeInfo, hi, Builtin.lenOf, hc, Builtin.firstCells, loadCells, loadCellsFrom]; cases base <;> simp [storeCells]
   ·simpa using hown
  ·obtain ⟨v', w1, h1, h2, h3, h4⟩ := run_append_ow (P := P) w B t ty e i zv (GoT.cells α) bytes ht hi hz hsize hby hzs (Nat.pos_of_ne_zero hsz) v l.length xs hown ⟨b, off, none⟩ m.length cap cs hrm.len (fun j u hj => by rw [addr_add]; exact hat j u hj) hrm.one
    (Nat.le_trans hle hlm) (Nat.le_trans (Nat.mul_le_mul_right _ hle) hlim) hB
   exact ⟨v', w1, h1, ⟨cs, h2, hrm⟩, h3, h4⟩
 obtain ⟨v', w1, hrun, ⟨ys, how, hry⟩, hgr, hpr, hdr⟩ := main
 have hmv : Mv Dw B A w (fun b => A b ∧ v'.ownBlock ≠ some b) w1 v.ownBlock := by
  refine ⟨hgr.os, hgr.tape, hgr.output, hgr.size, fun _ => hdr, fun k hk hne => hgr.block k hk hne, fun k hk => ?_, fun k hk => hk.1, fun k hk ha => ⟨ha, fun hv' => ?_⟩, fun b hb => ⟨hA b (Nat.le_trans hgr.size hb), fun hv' => ?_⟩⟩
  ·refine ⟨?_, hna k hk⟩
   exact (hown.lt k hk).1
  ·rcases hpr k hv' with h5 | h5
   ·exact hna k h5 ha
   ·omega
  ·have := (how.lt b hv').2
   omega
 refine V_y (v := v') (w' := w1) (fun a hA' => ?_) rfl rfl hn (h v' w1 _ (Ow.of_row (l := l ++ m) (xs := xs ++ ys) (by rw [List.length_append]; exact how) ((hrep.append hry).keep hmv.ex) fun g hg hA1 => hA1.2 hg) hmv hpr)
 simp only [execOp, resolve, invoke, builtin, List.map_toArray, List.map_cons, List.map_nil, hA'.eval hx, hA'.eval hy]
 simp [hrun]
structure Loc (v : Value) (b off : Nat) (i : Int) (sz : Nat) : Prop where
 val : ∃ len cap, v = .slice (some ⟨b, 0, none⟩) len cap
 off : off = i.toNat * sz
theorem VQ_indexAddrO {l : List α} {k : IntKind} {i : Int} {el : α} (ho : Ow e B A w v l) (hidx : idx l i = some el) (ht : P.underlying t = some (.slice e)) (hsz : ∀ w, (Go.sizeOf e).run P w = .ok (GoT.cells α) w)
  (hx : ev E x = some v) (hy : ev E y = some (.int k i)) (hn : Nat.blt d n.sz = true) (h : ∀ b off, El (fun _ => True) w b off el → Loc v b off i (GoT.cells α) → VQ P n ops W QA rest ((d, .pointer (some ⟨b, off, none⟩)) :: E)) :
  VQ P n ops W QA (⟨some d, .indexAddr t x y, ty, pos, af, none⟩ :: rest) E := by
 obtain ⟨h0, h1, h2⟩ := idx_some hidx
 rcases id ho with ⟨rfl, rfl⟩ | ⟨g, cap, cur, cs, rfl, _⟩
 ·simp at h2
 have hadd : ∀ w, Y P n E ⟨some d, .indexAddr t x y, ty, pos, af, none⟩ w (.pointer (some ⟨g, 0 + i.toNat * GoT.cells α, none⟩)) w := fun w a hA => by
  simp only [execOp, hA.eval hx, hA.eval hy, Instr.indexAt, asIntOf]
  simp [underlying, ht, hsz, h0, h1, addr_add]
 rcases ho.any with ⟨a, c, hv, hl, _⟩ | ⟨b', off', cap', cs', hv, hb', hlt', hlc', hcm', hrep', hat'⟩
 ·rw [hl] at h2; simp at h2
 simp only [Value.slice.injEq, Option.some.injEq, Addr.mk.injEq, and_true] at hv
 obtain ⟨⟨rfl, rfl⟩, _, _⟩ := hv
 obtain ⟨c1, c2, c3, rfl, hl, hr⟩ := hrep'.at h2
 refine VQ_y (fun w _ => hadd w) rfl rfl hn (h g (0 + i.toNat * GoT.cells α) ⟨trivial, hlt', c2, hr, ?_⟩ ⟨⟨_, _, rfl⟩, by rw [Nat.zero_add]⟩)
 rw [← hl]
 exact hat'.right.left
theorem repL.set {cs c2 : List Value} {l : List α} {i : Nat} {x' : α} (h : repL A w cs l) (hi : i < l.length) (hx : GoT.rep A w c2 x') :
  repL A w (cs.take (i * GoT.cells α) ++ c2 ++ cs.drop (i * GoT.cells α + c2.length)) (l.set i x') := by
 induction l generalizing cs i with
 | nil => simp at hi
 | cons y r ih =>
  rw [repL] at h
  obtain ⟨d1, d2, rfl, h1, h2⟩ := h
  have hl1 := GoT.len h1
  have hlx := GoT.len hx
  cases i with
  | zero =>
   rw [List.set_cons_zero, repL]
   refine ⟨c2, d2, ?_, hx, h2⟩
   rw [Nat.zero_mul, List.take_zero, List.nil_append, Nat.zero_add, hlx, ← hl1, List.drop_left]
  | succ i =>
   rw [List.set_cons_succ, repL]
   have := ih h2 (by simpa using hi)
   refine ⟨d1, _, ?_, h1, this⟩
   have e1 : (i + 1) * GoT.cells α = d1.length + i * GoT.cells α := by rw [hl1, Nat.succ_mul, Nat.add_comm]
   rw [e1, List.take_length_add_append, Nat.add_assoc, List.drop_length_add_append, List.append_assoc, List.append_assoc, List.append_assoc]
end steps
end Go.Gw
