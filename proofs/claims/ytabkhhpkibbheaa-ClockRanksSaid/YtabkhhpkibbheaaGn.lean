import Derived.Test.YtabkhhpkibbheaaGm
namespace Go.Gw
open Go Go.RowKit Go.Pu
variable {Dw : Prop}
set_option linter.unusedSimpArgs false
set_option linter.unusedVariables false
structure Mv (Dw : Prop) (B : Nat) (A : Nat → Prop) (w : World) (A1 : Nat → Prop) (w1 : World) (ob : Option Nat) : Prop where
 os : w1.os = w.os
 tape : w1.tape = w.tape
 output : w1.output = w.output
 size : w.heap.size ≤ w1.heap.size
 dr : Dw → w.drawn ≤ w1.drawn
 blk : ∀ k, k < w.heap.size → some k ≠ ob → w1.heap[k]? = w.heap[k]?
 old : ∀ k, ob = some k → B ≤ k ∧ ¬ A k
 sub : ∀ k, A1 k → A k
 sup : ∀ k, k < w.heap.size → A k → A1 k
 new : ∀ b, w1.heap.size ≤ b → A1 b
structure Tr (Dw : Prop) (B : Nat) (A : Nat → Prop) (w : World) (A1 : Nat → Prop) (w1 : World) : Prop where
 ex : Ex A w A1 w1
 below : Bel Dw B w w1
 sub : ∀ k, A1 k → A k ∨ B ≤ k
 new : ∀ b, w1.heap.size ≤ b → A1 b
theorem Mv.ex {B : Nat} {A A1 : Nat → Prop} {w w1 : World} {ob : Option Nat} (h : Mv Dw B A w A1 w1 ob) : Ex A w A1 w1 :=
 ⟨h.size, fun k hk ha => ⟨h.sup k hk ha, h.blk k hk fun e => (h.old k e.symm).2 ha⟩⟩
theorem Mv.tr {B : Nat} {A A1 : Nat → Prop} {w w1 : World} {ob : Option Nat} (h : Mv Dw B A w A1 w1 ob) (hB : B ≤ w.heap.size) : Tr Dw B A w A1 w1 :=
 ⟨h.ex, ⟨h.os, h.tape, h.output, h.size, h.dr, fun k hk => h.blk k (by omega) fun e => by have := (h.old k e.symm).1; omega⟩, fun k hk => .inl (h.sub k hk), h.new⟩
theorem Mv.kp {B : Nat} {A : Nat → Prop} {w w1 : World} (hk : Kp Dw w w1) (hA : ∀ b, w.heap.size ≤ b → A b) : Mv Dw B A w A w1 none :=
 ⟨hk.os, hk.tape, hk.output, hk.size, hk.dr, fun k h _ => hk.block k h, (fun _ h => by cases h), fun _ h => h, fun _ _ h => h, fun b hb => hA b (Nat.le_trans hk.size hb)⟩
theorem Tr.refl {B : Nat} {A : Nat → Prop} {w : World} (hA : ∀ b, w.heap.size ≤ b → A b) : Tr Dw B A w A w :=
 ⟨⟨Nat.le_refl _, fun _ _ h => ⟨h, rfl⟩⟩, Bel.refl _ _, fun _ h => .inl h, hA⟩
theorem Tr.trans {B : Nat} {A A1 A2 : Nat → Prop} {w w1 w2 : World} (h : Tr Dw B A w A1 w1) (k : Tr Dw B A1 w1 A2 w2) : Tr Dw B A w A2 w2 :=
 ⟨⟨Nat.le_trans h.ex.size k.ex.size, fun i hi ha => by
   obtain ⟨a1, b1⟩ := h.ex.block i hi ha
   obtain ⟨a2, b2⟩ := k.ex.block i (Nat.lt_of_lt_of_le hi h.ex.size) a1
   exact ⟨a2, b2.trans b1⟩⟩, h.below.trans k.below, fun i hi => by
   rcases k.sub i hi with h1 | h1
   ·exact h.sub i h1
   ·exact .inr h1, k.new⟩
theorem Sl.tr {α : Type} [GoT α] {B : Nat} {A A1 : Nat → Prop} {w w1 : World} {v : Value} {l : List α} (h : Sl A w v l) (m : Tr Dw B A w A1 w1) : Sl A1 w1 v l := h.keep m.ex
theorem El.tr {α : Type} [GoT α] {B : Nat} {A A1 : Nat → Prop} {w w1 : World} {b off : Nat} {x : α} (h : El A w b off x) (m : Tr Dw B A w A1 w1) : El A1 w1 b off x := h.keep m.ex
theorem Sl.out {α : Type} [GoT α] {A0 A : Nat → Prop} {w0 w : World} {v : Value} {l : List α} (h : Sl A w v l) (hA : ∀ b, w0.heap.size ≤ b → A0 b) (t : Tr Dw w0.heap.size A0 w0 A w) : Sl A0 w v l :=
 h.keep (.sub fun k _ hk => (t.sub k hk).elim id (hA k))
def Ow {α : Type} [GoT α] (e : TypeId) (B : Nat) (A : Nat → Prop) (w : World) (v : Value) (l : List α) : Prop :=
 (v = .slice none 0 0 ∧ l = []) ∨
 ∃ g cap cur cs, v = .slice (some ⟨g, 0, none⟩) l.length cap ∧ B ≤ g ∧ ¬ A g ∧ w.heap[g]? = some (.cells cur e (0, 0)) ∧ l.length ≤ cap ∧ cap ≤ maxLen ∧ cur.size = cap * GoT.cells α ∧ repL A w cs l ∧ cur.toList.take (l.length * GoT.cells α) = cs
def Dj (v : Value) (ob : Option Nat) : Prop := ∀ g, v.ownBlock = some g → some g ≠ ob
section
variable {α : Type} [GoT α] {A A1 : Nat → Prop} {w w1 : World} {e : TypeId} {B : Nat} {v u : Value} {l : List α} {ob : Option Nat}
theorem Ow.sl {A2 : Nat → Prop} (h : Ow e B A w v l) (hs : ∀ k, A k → A2 k) (hb : ∀ g, v.ownBlock = some g → A2 g) : Sl A2 w v l := by
 rcases h with ⟨rfl, rfl⟩ | ⟨g, cap, cur, cs, rfl, h2, h3, h4, h5, h6, h7, h8, h9⟩
 ·exact Sl.nil
 ·refine .inr ⟨g, 0, cap, cs, rfl, hb g rfl, (Array.getElem?_eq_some_iff.1 h4).1, h5, h6, h8.keep (.sub fun k _ hk => hs k hk), ?_⟩
  intro j u hj
  rw [← h9] at hj
  rw [List.getElem?_take] at hj
  split at hj
  ·simp only [World.cell?, h4, Nat.zero_add]
   simpa using hj
  ·cases hj
theorem Ow.any (h : Ow e B A w v l) : Sl (fun _ => True) w v l := h.sl (fun _ _ => trivial) (fun _ _ => trivial)
end
theorem appendL_some {α : Type} {lim : Nat} {l m r : List α} (h : appendL lim l m = some r) : l.length + m.length ≤ lim ∧ r = l ++ m := by
 unfold appendL at h
 split at h
 ·rename_i h1
  exact ⟨h1, (Option.some.inj h).symm⟩
 ·cases h
section
variable {P : Program}
theorem run_append_ow (w : World) (base : Nat) (t ty e : TypeId) (i : TypeInfo) (z : Value) (size bytes : Nat) (ht : P.underlying t = some (.slice e)) (hi : P.info? e = some i) (hz : i.zero = some z)
  (hsize : i.size = size) (hby : i.bytes = bytes) (hzs : z.cells.size = size) (hsz : 0 < size)
  (v : Value) (n : Nat) (xs : List Value) (hown : w.ownsRow base e size v n xs)
  (a : Addr) (m c : Nat) (news : List Value) (hl : news.length = m * size) (hnews : ∀ j u, news[j]? = some u → w.cell? (a.add j) = some u) (h1 : ∀ u ∈ news, u.oneCell' = true)
  (h63 : n + m ≤ maxLen) (hbytes : (n + m) * bytes ≤ 140737488355328) (hbase : base ≤ w.heap.size) :
  ∃ v' w', (Builtin.append_ #[t, t] ty #[v, .slice (some a) m c]).run P w = .ok v' w' ∧ w'.ownsRow base e size v' (n + m) (xs ++ news) ∧ w.grownBy w' v.ownBlock ∧
   (∀ g, v'.ownBlock = some g → v.ownBlock = some g ∨ w.heap.size ≤ g) ∧ w.drawn ≤ w'.drawn := by
 subst hsize
 subst hby
 have hsmall : n + m ≤ 9223372036854775807 := by simp only [maxLen] at h63; omega
 have hlen : (xs ++ news).length = (n + m) * i.size := by rw [List.length_append, hown.1, hl, Nat.add_mul]
 have grown : ∀ (old : Nat), old < n + m → ∀ (row : Option Nat),
   (w.drew.alloc (.cells (xs.toArray ++ news.toArray ++ Builtin.zeroCells z.cells (grownCap w (n + m) old e - (n + m))) e)).ownsRow base e i.size
    (.slice (some ⟨w.heap.size, 0, none⟩) (n + m) (grownCap w (n + m) old e)) (n + m) (xs ++ news) ∧
   w.grownBy (w.drew.alloc (.cells (xs.toArray ++ news.toArray ++ Builtin.zeroCells z.cells (grownCap w (n + m) old e - (n + m))) e)) row := by
  intro old ho row
  have hge := grownCap_ge w (n + m) old e
  have hcm : grownCap w (n + m) old e ≤ maxLen := grownCap_le_maxLen w (n + m) old e h63
  refine ⟨⟨hlen, .inr ⟨w.heap.size, _, _, rfl, hbase, heap_alloc_new w.drew _, hge, hcm, ?_, ?_⟩⟩, ⟨rfl, rfl, rfl, by simp, fun k hk _ => heap_alloc_old w.drew _ hk⟩⟩
  ·simp only [Array.size_append, List.size_toArray, size_zeroCells, hzs, hown.1, hl, ← Nat.add_mul]
   congr 1
   omega
  ·simp only [Array.toList_append, List.append_assoc]
   rw [← List.append_assoc, ← hlen]
   exact List.take_left
 rcases hown.2 with ⟨rfl, rfl⟩ | ⟨g, cap, cur, rfl, hbg, hg, hnc, hcm, hcs, htake⟩
 ·have hx : xs = [] := List.eq_nil_of_length_eq_zero (by simpa using hown.1)
  subst hx
  by_cases hm : m = 0
  ·subst hm
   have hn : news = [] := List.eq_nil_of_length_eq_zero (by simpa using hl)
   subst hn
   refine ⟨.slice none 0 0, w, ?_, World.ownsRow_nil w base e i.size, ⟨rfl, rfl, rfl, Nat.le_refl _, fun _ _ _ => rfl⟩, fun g h => .inl h, Nat.le_refl _⟩
   simp [Builtin.append_, run_underlying ht, sizeOf, typeInfo, hi, Builtin.lenOf, Builtin.firstCells, loadCells, loadCellsFrom]
  ·have hr := run_append_nil (P := P) w t ty e i z ht hi hz a m c news hl hnews (by omega) (by omega) (by have hb := hbytes; simp only [Nat.zero_add] at hb; omega)
   have hgr := grown 0 (by omega) (Value.ownBlock (.slice none 0 0))
   simp only [Nat.zero_add, List.nil_append, Array.empty_append] at hgr ⊢
   exact ⟨_, _, hr, hgr.1, hgr.2, fun g h => .inr (by simp [Value.ownBlock] at h; omega), Nat.le_succ _⟩
 ·by_cases hroom : n + m ≤ cap
  ·have hfit : n * i.size + news.length ≤ cur.size := by rw [hl, hcs, ← Nat.add_mul]; exact Nat.mul_le_mul_right _ hroom
   have hr := run_append_room (P := P) w t ty e i ht hi g n cap cur hg a m c news hl hnews h1 hroom hfit
   refine ⟨_, _, hr, ⟨hlen, .inr ⟨g, cap, _, rfl, hbg, setRow_heap w g cur _ e _ hg, hroom, hcm, ?_, ?_⟩⟩, ⟨rfl, rfl, rfl, by simp, fun k _ hk => setRow_other w g k _ (fun e => hk (by simp [Value.ownBlock, e]))⟩, fun g' h => .inl h, Nat.le_refl _⟩
   ·simp only [List.size_toArray, List.length_append, List.length_take, List.length_drop, Array.length_toList]
    omega
   ·rw [htake, ← hlen]
    exact List.take_left
  ·have holds : ∀ j u, xs[j]? = some u → w.cell? ((⟨g, 0, none⟩ : Addr).add j) = some u := hown.cells (g := g) rfl
   have hr := run_append_grow (P := P) w t ty e i z ht hi hz ⟨g, 0, none⟩ n cap xs hown.1 holds a m c news hl hnews (by omega) (by omega) (growslice_fits (by omega) hbytes)
   have hgr := grown cap (by omega) (Value.ownBlock (.slice (some ⟨g, 0, none⟩) n cap))
   exact ⟨_, _, hr, hgr.1, hgr.2, fun g' h => .inr (by simp [Value.ownBlock] at h; omega), Nat.le_succ _⟩
end
section steps
variable {P : Program} {n : Fr} {ops : Array Oper} {Q : Exit → Act → World → Prop} {E : Env} {w : World} {rest : List Oper} {v u : Value} {d : Nat} {W : World → Prop} {QA : Act → Prop}
variable {ty t e : TypeId} {pos : String} {af : Array Edge} {x y z : Operand} {A : Nat → Prop} {α : Type} [GoT α] {ρd : Option Nat} {g : Option (Nat × Bool)} {B : Nat}
theorem Ow.row {l : List α} (h : Ow e B A w v l) : ∃ xs, w.ownsRow B e (GoT.cells α) v l.length xs ∧ repL A w xs l ∧ ∀ g, v.ownBlock = some g → ¬ A g := by
 rcases h with ⟨rfl, rfl⟩ | ⟨g, cap, cur, cs, rfl, h2, h3, h4, h5, h6, h7, h8, h9⟩
 ·exact ⟨[], World.ownsRow_nil _ _ _ _, rfl, fun g h => by simp [Value.ownBlock] at h⟩
 ·refine ⟨cs, ⟨h8.len, .inr ⟨g, cap, cur, rfl, h2, h4, h5, h6, h7, h9⟩⟩, h8, fun g' h => ?_⟩
  simp [Value.ownBlock] at h
  subst h
  exact h3
theorem Ow.of_row {l : List α} {xs : List Value} (h : w.ownsRow B e (GoT.cells α) v l.length xs) (hr : repL A w xs l) (ha : ∀ g, v.ownBlock = some g → ¬ A g) : Ow e B A w v l := by
 obtain ⟨h1, h2⟩ := h
 rcases h2 with ⟨rfl, h⟩ | ⟨g, cap, cur, rfl, hb, hg, hc, hm, hs, ht⟩
 ·exact .inl ⟨rfl, List.eq_nil_of_length_eq_zero h⟩
 ·exact .inr ⟨g, cap, cur, xs, rfl, hb, ha g rfl, hg, hc, hm, hs, hr, ht⟩
theorem V_append {l m r : List α} {lim bytes : Nat} {i : TypeInfo} {zv : Value} (ho : Ow e B A w v l) (hm : Sl A w u m) (hr : appendL lim l m = some r) (ht : P.underlying t = some (.slice e)) (hi : P.info? e = some i) (hz : i.zero = some zv)
  (hsize : i.size = GoT.cells α) (hby : i.bytes = bytes) (hzs : zv.cells.size = GoT.cells α) (hsz : GoT.cells α ≠ 0) (hlim : lim * bytes ≤ 140737488355328) (hlm : lim ≤ maxLen) (hB : B ≤ w.heap.size) (hA : ∀ b, w.heap.size ≤ b → A b)
  (hx : ev E x = some v) (hy : ev E y = some u) (hn : Nat.blt d n.sz = true)
  (h : ∀ v' w1 A1, Ow e B A1 w1 v' r → Mv Dw B A w A1 w1 v.ownBlock → (∀ g, v'.ownBlock = some g → v.ownBlock = some g ∨ w.heap.size ≤ g) → V P n ops Q rest ((d, v') :: E) w1) :
  V P n ops Q (⟨some d, .call ⟨.builtin .append, #[x, y], #[t, t]⟩, ty, pos, af, none⟩ :: rest) E w := by
 obtain ⟨hle, rfl⟩ := appendL_some hr
 obtain ⟨xs, hown, hrep, hna⟩ := ho.row
 have main : ∃ v' w1, (Builtin.append_ #[t, t] ty #[v, u]).run P w = .ok v' w1 ∧ (∃ ys, w1.ownsRow B e (GoT.cells α) v' (l.length + m.length) (xs ++ ys) ∧ repL A w ys m) ∧ w.grownBy w1 v.ownBlock ∧ (∀ g, v'.ownBlock = some g → v.ownBlock = some g ∨ w.heap.size ≤ g) ∧ w.drawn ≤ w1.drawn := by
  rcases hm with ⟨a, cap, rfl, rfl, hcap, hnil⟩ | ⟨b, off, cap, cs, rfl, hb, hblt, hlc, hcm, hrm, hat⟩
  · -- nothing to append
   refine ⟨v, w, ?_, ⟨[], ?_, rfl⟩, ⟨rfl, rfl, rfl, Nat.le_refl _, fun _ _ _ => rfl⟩, fun g h => .inl h, Nat.le_refl _⟩
   ·have hroom : ∃ base c, v = .slice base l.length c ∧ l.length ≤ c := by
     rcases ho with ⟨rfl, rfl⟩ | ⟨g, c, cur, cs, rfl, _, _, _, h5, _⟩
     ·exact ⟨none, 0, rfl, Nat.le_refl _⟩
     ·exact ⟨_, _, rfl, h5⟩
    obtain ⟨base, c, rfl, hc⟩ := hroom
    clear h
    cases a with
    | none => simp [Builtin.append_, run_underlying ht, sizeOf, typeInfo, hi, Builtin.lenOf, hc, Builtin.firstCells]; cases base <;> simp [storeCells]
    | some a => simp [Builtin.append_, run_underlying ht, sizeOf, typeInfo, hi, Builtin.lenOf, hc, Builtin.firstCells, loadCells, loadCellsFrom]; cases base <;> simp [storeCells]
   ·simpa using hown
  ·obtain ⟨v', w1, h1, h2, h3, h4⟩ := run_append_ow (P := P) w B t ty e i zv (GoT.cells α) bytes ht hi hz hsize hby hzs (Nat.pos_of_ne_zero hsz) v l.length xs hown ⟨b, off, none⟩ m.length cap cs hrm.len (fun j u hj => by rw [addr_add]; exact hat j u hj) hrm.one
    (Nat.le_trans hle hlm) (Nat.le_trans (Nat.mul_le_mul_right _ hle) hlim) hB
   exact ⟨v', w1, h1, ⟨cs, h2, hrm⟩, h3, h4⟩
 obtain ⟨v', w1, hrun, ⟨ys, how, hry⟩, hgr, hpr, hdr⟩ := main
 have hmv : Mv Dw B A w (fun b => A b ∧ v'.ownBlock ≠ some b) w1 v.ownBlock := by
  refine ⟨hgr.os, hgr.tape, hgr.output, hgr.size, fun _ => hdr, fun k hk hne => hgr.block k hk hne, fun k hk => ?_, fun k hk => hk.1, fun k hk ha => ⟨ha, fun hv' => ?_⟩, fun b hb => ⟨hA b (Nat.le_trans hgr.size hb), fun hv' => ?_⟩⟩
  ·refine ⟨?_, hna k hk⟩
   exact (hown.lt k hk).1
  ·rcases hpr k hv' with h5 | h5
   ·exact hna k h5 ha
   ·omega
  ·have := (how.lt b hv').2
   omega
 refine V_y (v := v') (w' := w1) (fun a hA' => ?_) rfl rfl hn (h v' w1 _ (Ow.of_row (l := l ++ m) (xs := xs ++ ys) (by rw [List.length_append]; exact how) ((hrep.append hry).keep hmv.ex) fun g hg hA1 => hA1.2 hg) hmv hpr)
 simp only [execOp, resolve, invoke, builtin, List.map_toArray, List.map_cons, List.map_nil, hA'.eval hx, hA'.eval hy]
 simp [hrun]
omit [GoT α] in
theorem makeL_some {lim : Nat} {k : Int} {zz : α} {r : List α} (h : makeL lim k zz = some r) : 0 ≤ k ∧ k.toNat ≤ lim ∧ r = List.replicate k.toNat zz := by
 unfold makeL at h
 split at h
 ·rename_i h1; exact ⟨h1.1, h1.2, (Option.some.inj h).symm⟩
 ·cases h
theorem repL_replicate {zz : α} {cs : List Value} (hz : GoT.rep A w cs zz) : ∀ k, repL A w (List.replicate k cs).flatten (List.replicate k zz)
 | 0 => rfl
 | k + 1 => by
  rw [List.replicate_succ, List.replicate_succ, List.flatten_cons, repL]
  exact ⟨_, _, rfl, hz, repL_replicate hz k⟩
theorem madeCells_flat (zs : Array Value) : ∀ k, (madeCells zs (k * zs.size)).toList = (List.replicate k zs.toList).flatten := by
 intro k
 apply List.ext_getElem?
 intro j
 simp only [madeCells, Array.toList_map, Array.toList_range]
 rcases Nat.lt_or_ge j (k * zs.size) with hj | hj
 ·have hz : 0 < zs.size := by
   rcases Nat.eq_zero_or_pos zs.size with h | h
   ·rw [h] at hj; omega
   ·exact h
  have hl : ∀ (k j : Nat), j < k * zs.size → (List.replicate k zs.toList).flatten[j]? = some zs[j % zs.size]! := by
   intro k
   induction k with
   | zero => intro j hj; omega
   | succ k ih =>
    intro j hj
    rw [List.replicate_succ, List.flatten_cons]
    rcases Nat.lt_or_ge j zs.size with h | h
    ·rw [List.getElem?_append_left (by simpa using h), Nat.mod_eq_of_lt h]
     simp [h]
    ·rw [List.getElem?_append_right (by simpa using h)]
     have : (k + 1) * zs.size = k * zs.size + zs.size := Nat.succ_mul _ _
     rw [Array.length_toList, ih (j - zs.size) (by omega), Nat.mod_eq_sub_mod h]
  rw [hl k j hj]
  simp [hj]
 ·rw [List.getElem?_eq_none (by simpa using hj), List.getElem?_eq_none]
  simp [List.length_flatten]
  exact hj
theorem V_make {zz : α} {k : Int} {kd kc : IntKind} {r : List α} {lim bytes : Nat} {i : TypeInfo} {zv : Value} (hr : makeL lim k zz = some r) (hzr : ∀ (A : Nat → Prop) (w : World), GoT.rep A w zv.cells.toList zz) (ht : P.underlying t = some (.slice e)) (hi : P.info? e = some i) (hz : i.zero = some zv)
  (hsize : i.size = GoT.cells α) (hby : i.bytes = bytes) (hlim : bytes * lim ≤ 281474976710656) (hlm : lim ≤ maxLen) (hB : B ≤ w.heap.size) (hA : ∀ b, w.heap.size ≤ b → A b)
  (hx : ev E x = some (.int kd k)) (hy : ev E y = some (.int kc k)) (hn : Nat.blt d n.sz = true)
  (h : ∀ v w1 A1, Ow e B A1 w1 v r → Mv Dw B A w A1 w1 none → (∀ g, v.ownBlock = some g → w.heap.size ≤ g) → V P n ops Q rest ((d, v) :: E) w1) :
  V P n ops Q (⟨some d, .makeSlice t x y, ty, pos, af, none⟩ :: rest) E w := by
 obtain ⟨h0, h1, rfl⟩ := makeL_some hr
 obtain ⟨w1, hrun, how, hgr⟩ := run_make_full (P := P) w B t e i zv (GoT.cells α) ht hi hz hsize kd kc k.toNat (by rw [hby]; exact Nat.le_trans (Nat.mul_le_mul_left _ h1) hlim) (Nat.le_trans h1 hlm) hB
 have hdr : w.drawn ≤ w1.drawn := by
  have h63' : (k.toNat : Int) ≤ 9223372036854775807 := by have h := Nat.le_trans h1 hlm; simp [maxLen] at h; omega
  have hb' : (i.bytes : Int) * (k.toNat : Int) ≤ 281474976710656 := by
   have h : ((i.bytes * k.toNat : Nat) : Int) ≤ 281474976710656 := by have := Nat.le_trans (Nat.mul_le_mul_left bytes h1) hlim; rw [hby]; omega
   rwa [Int.natCast_mul] at h
  have hr2 := run_make (P := P) w t e i zv ht hi hz kd kc k.toNat k.toNat (by omega) (Int.le_refl _) hb' h63'
  cases hrun.symm.trans hr2
  exact Nat.le_refl _
 have hk : ((k.toNat : Nat) : Int) = k := Int.toNat_of_nonneg h0
 rw [hk] at hrun
 have hzs : zv.cells.size = GoT.cells α := by have := GoT.len (hzr A w); simpa using this
 have hmv : Mv Dw B A w (fun b => A b ∧ b ≠ w.heap.size) w1 none :=
  ⟨hgr.os, hgr.tape, hgr.output, hgr.size, fun _ => hdr, fun k hk hne => hgr.block k hk hne, (fun k h => by cases h), fun k h => h.1, fun k hk ha => ⟨ha, by omega⟩, fun b hb => ⟨hA b (Nat.le_trans hgr.size hb), by
   have := (how.lt w.heap.size rfl).2; omega⟩⟩
 refine V_y (v := .slice (some ⟨w.heap.size, 0, none⟩) k.toNat k.toNat) (w' := w1) (fun a hA' => ?_) rfl rfl hn (h _ w1 _ (Ow.of_row (l := List.replicate k.toNat zz) (xs := (List.replicate k.toNat zv.cells.toList).flatten) ?_ (repL_replicate (hzr _ _) _) ?_) hmv ?_)
 ·simp only [execOp, hA'.eval hx, hA'.eval hy]
  simp [hrun]
 ·rw [List.length_replicate, ← madeCells_flat, hzs]
  exact how
 ·intro g hg hA1
  simp [Value.ownBlock] at hg
  exact hA1.2 hg.symm
 ·intro g hg
  simp [Value.ownBlock] at hg
  omega
structure Loc (v : Value) (b off : Nat) (i : Int) (sz : Nat) : Prop where
 val : ∃ len cap, v = .slice (some ⟨b, 0, none⟩) len cap
 off : off = i.toNat * sz
theorem V_indexAddrO {l : List α} {k : IntKind} {i : Int} {el : α} (ho : Ow e B A w v l) (hidx : idx l i = some el) (ht : P.underlying t = some (.slice e)) (hsz : ∀ w, (Go.sizeOf e).run P w = .ok (GoT.cells α) w)
  (hx : ev E x = some v) (hy : ev E y = some (.int k i)) (hn : Nat.blt d n.sz = true) (h : ∀ b off, El (fun _ => True) w b off el → Loc v b off i (GoT.cells α) → V P n ops Q rest ((d, .pointer (some ⟨b, off, none⟩)) :: E) w) :
  V P n ops Q (⟨some d, .indexAddr t x y, ty, pos, af, none⟩ :: rest) E w := by
 obtain ⟨h0, h1, h2⟩ := idx_some hidx
 rcases id ho with ⟨rfl, rfl⟩ | ⟨g, cap, cur, cs, rfl, _⟩
 ·simp at h2
 have hadd : Y P n E ⟨some d, .indexAddr t x y, ty, pos, af, none⟩ w (.pointer (some ⟨g, 0 + i.toNat * GoT.cells α, none⟩)) w := fun a hA => by
  simp only [execOp, hA.eval hx, hA.eval hy, Instr.indexAt, asIntOf]
  simp [underlying, ht, hsz, h0, h1, addr_add]
 rcases ho.any with ⟨a, c, hv, hl, _⟩ | ⟨b', off', cap', cs', hv, hb', hlt', hlc', hcm', hrep', hat'⟩
 ·rw [hl] at h2; simp at h2
 simp only [Value.slice.injEq, Option.some.injEq, Addr.mk.injEq, and_true] at hv
 obtain ⟨⟨rfl, rfl⟩, _, _⟩ := hv
 obtain ⟨c1, c2, c3, rfl, hl, hr⟩ := hrep'.at h2
 refine V_y hadd rfl rfl hn (h g (0 + i.toNat * GoT.cells α) ⟨trivial, hlt', c2, hr, ?_⟩ ⟨⟨_, _, rfl⟩, by rw [Nat.zero_add]⟩)
 rw [← hl]
 exact hat'.right.left
theorem VQ_indexAddrO {l : List α} {k : IntKind} {i : Int} {el : α} (ho : Ow e B A w v l) (hidx : idx l i = some el) (ht : P.underlying t = some (.slice e)) (hsz : ∀ w, (Go.sizeOf e).run P w = .ok (GoT.cells α) w)
  (hx : ev E x = some v) (hy : ev E y = some (.int k i)) (hn : Nat.blt d n.sz = true) (h : ∀ b off, El (fun _ => True) w b off el → Loc v b off i (GoT.cells α) → VQ P n ops W QA rest ((d, .pointer (some ⟨b, off, none⟩)) :: E)) :
  VQ P n ops W QA (⟨some d, .indexAddr t x y, ty, pos, af, none⟩ :: rest) E := by
 obtain ⟨h0, h1, h2⟩ := idx_some hidx
 rcases id ho with ⟨rfl, rfl⟩ | ⟨g, cap, cur, cs, rfl, _⟩
 ·simp at h2
 have hadd : ∀ w, Y P n E ⟨some d, .indexAddr t x y, ty, pos, af, none⟩ w (.pointer (some ⟨g, 0 + i.toNat * GoT.cells α, none⟩)) w := fun w a hA => by
  simp only [execOp, hA.eval hx, hA.eval hy, Instr.indexAt, asIntOf]
  simp [underlying, ht, hsz, h0, h1, addr_add]
 rcases ho.any with ⟨a, c, hv, hl, _⟩ | ⟨b', off', cap', cs', hv, hb', hlt', hlc', hcm', hrep', hat'⟩
 ·rw [hl] at h2; simp at h2
 simp only [Value.slice.injEq, Option.some.injEq, Addr.mk.injEq, and_true] at hv
 obtain ⟨⟨rfl, rfl⟩, _, _⟩ := hv
 obtain ⟨c1, c2, c3, rfl, hl, hr⟩ := hrep'.at h2
 refine VQ_y (fun w _ => hadd w) rfl rfl hn (h g (0 + i.toNat * GoT.cells α) ⟨trivial, hlt', c2, hr, ?_⟩ ⟨⟨_, _, rfl⟩, by rw [Nat.zero_add]⟩)
 rw [← hl]
 exact hat'.right.left
theorem repL.set {cs c2 : List Value} {l : List α} {i : Nat} {x' : α} (h : repL A w cs l) (hi : i < l.length) (hx : GoT.rep A w c2 x') :
  repL A w (cs.take (i * GoT.cells α) ++ c2 ++ cs.drop (i * GoT.cells α + c2.length)) (l.set i x') := by
 induction l generalizing cs i with
 | nil => simp at hi
 | cons y r ih =>
  rw [repL] at h
  obtain ⟨d1, d2, rfl, h1, h2⟩ := h
  have hl1 := GoT.len h1
  have hlx := GoT.len hx
  cases i with
  | zero =>
   rw [List.set_cons_zero, repL]
   refine ⟨c2, d2, ?_, hx, h2⟩
   rw [Nat.zero_mul, List.take_zero, List.nil_append, Nat.zero_add, hlx, ← hl1, List.drop_left]
  | succ i =>
   rw [List.set_cons_succ, repL]
   have := ih h2 (by simpa using hi)
   refine ⟨d1, _, ?_, h1, this⟩
   have e1 : (i + 1) * GoT.cells α = d1.length + i * GoT.cells α := by rw [hl1, Nat.succ_mul, Nat.add_comm]
   rw [e1, List.take_length_add_append, Nat.add_assoc, List.drop_length_add_append, List.append_assoc, List.append_assoc, List.append_assoc]
theorem V_storeO {l r : List α} {i : Int} {b off sz : Nat} {x' : α} {nv : Value} (ho : Ow e B A w v l) (hloc : Loc v b off i (GoT.cells α)) (hr : setI l i x' = some r) (hrep : GoT.rep A w nv.cells.toList x') (hs : ∀ w, (Go.sizeOf t).run P w = .ok sz w) (hsz : sz = GoT.cells α) (hA : ∀ b, w.heap.size ≤ b → A b)
  (hx : ev E x = some (.pointer (some ⟨b, off, none⟩))) (hy : ev E y = some nv)
  (h : ∀ w1, Ow e B A w1 v r → Mv Dw B A w A w1 v.ownBlock → V P n ops Q rest E w1) : V P n ops Q (⟨none, .store t x y, ty, pos, af, none⟩ :: rest) E w := by
 obtain ⟨⟨len, cap0, rfl⟩, rfl⟩ := hloc
 unfold setI at hr
 split at hr
 rotate_left
 ·cases hr
 rename_i hi
 obtain rfl := Option.some.inj hr
 rcases ho with ⟨hv, _⟩ | ⟨g, cap, cur, cs, hv, h2, h3, h4, h5, h6, h7, h8, h9⟩
 ·cases hv
 simp only [Value.slice.injEq, Option.some.injEq, Addr.mk.injEq, and_true] at hv
 obtain ⟨rfl, rfl, rfl⟩ := hv
 have hlen := GoT.len hrep
 have hcl : nv.cells.size = GoT.cells α := by simpa using hlen
 have hin : i.toNat * GoT.cells α + GoT.cells α ≤ l.length * GoT.cells α := by
  rw [← Nat.succ_mul]; exact Nat.mul_le_mul_right _ (by omega)
 have hcap : l.length * GoT.cells α ≤ cur.size := by rw [h7]; exact Nat.mul_le_mul_right _ h5
 have hst := run_storeCells_at P b (i.toNat * GoT.cells α) e nv.cells.toList 0 cur w h4 (by rw [Nat.add_zero, hlen]; omega) (GoT.one hrep)
 rw [Nat.add_zero] at hst
 generalize hrow : (cur.toList.take (i.toNat * GoT.cells α) ++ nv.cells.toList ++ cur.toList.drop (i.toNat * GoT.cells α + nv.cells.toList.length)).toArray = row at hst
 have hrs : row.size = cap0 * GoT.cells α := by
  rw [← hrow, ← h7]
  simp only [List.size_toArray, List.length_append, List.length_take, List.length_drop, Array.length_toList, hcl]
  omega
 have hmv : Mv Dw B A w A (w.setRow b row) (some b) :=
  ⟨rfl, rfl, rfl, by simp, fun _ => Nat.le_refl _, fun k hk hne => setRow_other w b k _ (fun e => hne (by rw [e])), fun k hk => by cases hk; exact ⟨h2, h3⟩, fun _ h => h, fun _ _ h => h, fun b' hb' => hA b' (by simpa using hb')⟩
 refine V_s (w' := w.setRow b row) (fun a hA' => ?_) rfl rfl (h _ (.inr ⟨b, cap0, row, _, by rw [List.length_set], h2, h3, setRow_heap w b cur _ e _ h4, by rw [List.length_set]; exact h5, h6, hrs, (h8.set hi.2 hrep).keep hmv.ex, ?_⟩) hmv)
 ·simp only [execOp, hA'.eval hx, hA'.eval hy, Instr.storeAt, Instr.sureAddr]
  simp [storeVar, hs, hsz, hcl, hst]
 ·rw [← hrow, List.length_set, ← h9]
  have hcl2 : nv.cells.toList.length = GoT.cells α := hlen
  apply List.ext_getElem?
  intro j
  simp only [List.getElem?_take, List.getElem?_append, List.getElem?_drop, List.length_take, List.length_append, Array.length_toList, hcl2]
  repeat' split
  all_goals first | rfl | omega | (congr 1; omega) | skip
  all_goals (first | (rw [List.getElem?_eq_none]; simp; omega) | skip)
end steps
end Go.Gw
