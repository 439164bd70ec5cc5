import Derived.Test.YtiblagcmjobknaaGreatDoorIb
namespace Go.Gw
open Go Go.RowKit Go.Pu
variable {Dw : Prop}
set_option linter.unusedSimpArgs false
set_option linter.unusedVariables false
section
variable {P : Program} {nn : Fr} {ops : Array Oper} {Q : Exit → Act → World → Prop} {E : Env} {w : World} {rest : List Oper} {α : Type} [GoT α] {d : Nat}
variable {ty t e : TypeId} {pos : String} {af : Array Edge} {x y : Operand} {A : Nat → Prop} {B : Nat} {L : List Ob} {k : Nat} {l : List α}
def zaU {α : Type} (l : List α) (i j : Nat) : List α := l.take i ++ l.drop j ++ l.drop (i + (l.length - j))
theorem zaT {α : Type} {l : List α} {i j : Nat} (hij : i ≤ j) (hj : j ≤ l.length) : (zaU l i j).length = l.length := by
 unfold zaU
 simp only [List.length_append, List.length_take, List.length_drop]
 omega
theorem zeN {α : Type} {l : List α} {i j : Nat} (hij : i ≤ j) (hj : j ≤ l.length) : (zaU l i j).take (i + (l.length - j)) = l.take i ++ l.drop j := by
 unfold zaU
 refine List.take_left' ?_
 simp only [List.length_append, List.length_take, List.length_drop]
 omega
theorem zfn {i j g cap c2 : Nat} {a : Addr} {ti : TypeInfo} (hH : Hp B A w L) (hi : L[k]? = some (obS e (.slice (some ⟨g, 0, none⟩) l.length cap) l)) (hij : i ≤ j) (hj : j ≤ l.length) (ht : P.underlying t = some (.slice e)) (hti : P.info? e = some ti) (hsize : ti.size = GoT.cells α)
  (hB : B ≤ w.heap.size) (hA : ∀ b, w.heap.size ≤ b → A b) (hx : ev E x = some (.slice (some ⟨g, 0, none⟩) i cap)) (hy : ev E y = some (.slice (some a) (l.length - j) c2)) (ha : j < l.length → a = ⟨g, j * GoT.cells α, none⟩) (hn : Nat.blt d nn.sz = true)
  (h : ∀ w1, Hp B A w1 (L.set k (obS e (.slice (some ⟨g, 0, none⟩) l.length cap) (zaU l i j))) → Tr Dw B A w A w1 → V P nn ops Q rest ((d, .slice (some ⟨g, 0, none⟩) (i + (l.length - j)) cap) :: E) w1) :
  V P nn ops Q (⟨some d, .call ⟨.builtin .append, #[x, y], #[t, t]⟩, ty, pos, af, none⟩ :: rest) E w := by
 obtain ⟨f, hp, hb, hset⟩ := hH.at hi
 rcases hp with ⟨hv, _, _⟩ | ⟨g', cap', cur, cs, hv, rfl, h4, h5, h6, h7, h8, h9⟩
 ·cases hv
 simp only [Value.slice.injEq, Option.some.injEq, Addr.mk.injEq, and_true] at hv
 obtain ⟨rfl, _, rfl⟩ := hv
 have hb0 := hb g (by simp)
 generalize hc : GoT.cells α = c at *
 have hlc : cs.length = l.length * c := by rw [← hc]; exact h8.len
 have hjc : j * c ≤ l.length * c := Nat.mul_le_mul_right _ hj
 have hic : i * c ≤ j * c := Nat.mul_le_mul_right _ hij
 have hcapc : l.length * c ≤ cap * c := Nat.mul_le_mul_right _ h5
 have hsub : (l.length - j) * c = l.length * c - j * c := Nat.sub_mul _ _ _
 have hnl : (cs.drop (j * c)).length = (l.length - j) * ti.size := by rw [hsize, List.length_drop, hlc, hsub]
 have hnews : ∀ q u, (cs.drop (j * c))[q]? = some u → w.cell? (a.add q) = some u := by
  intro q u hq
  have hjl : j < l.length := by
   rcases Nat.lt_or_ge j l.length with h | h
   ·exact h
   ·rw [List.drop_eq_nil_of_le (by rw [hlc]; exact Nat.mul_le_mul_right _ h)] at hq
    simp at hq
  rw [ha hjl]
  have hq' : cs[j * c + q]? = some u := by rw [← hq, List.getElem?_drop]
  have hlt := (List.getElem?_eq_some_iff.1 hq').1
  rw [← h9, List.getElem?_take] at hq'
  split at hq'
  case isFalse => cases hq'
  rw [Addr.add_lit]
  simp only [World.cell?, h4]
  simpa using hq'
 have h1 : ∀ u ∈ cs.drop (j * c), u.oneCell' = true := fun u hu => h8.one u (List.mem_of_mem_drop hu)
 have hroom : i + (l.length - j) ≤ cap := by omega
 have hfit : i * ti.size + (cs.drop (j * c)).length ≤ cur.size := by rw [hnl, hsize, hsub, h7]; omega
 have hrun := run_append_room (P := P) w t ty e ti ht hti g i cap cur h4 a (l.length - j) c2 (cs.drop (j * c)) hnl hnews h1 hroom hfit
 generalize hrow : (cur.toList.take (i * ti.size) ++ cs.drop (j * c) ++ cur.toList.drop (i * ti.size + (cs.drop (j * c)).length)).toArray = row at hrun
 have hmv : Mv Dw B A w A (w.setRow g row) (some g) :=
  ⟨rfl, rfl, rfl, by simp, fun _ => Nat.le_refl _, fun k hk hne => setRow_other w g k _ (fun e => hne (by rw [e])), fun k hk => by cases hk; exact ⟨hb0.1, hb0.2.2⟩, fun _ h => h, fun _ _ h => h, fun b' hb' => hA b' (by simpa using hb')⟩
 have hrs : row.size = cap * c := by
  rw [← hrow, ← h7]
  simp only [List.size_toArray, List.length_append, List.length_take, List.length_drop, Array.length_toList] at hfit ⊢
  omega
 have hcur : cur.toList.take (l.length * c) = cs := h9
 have hrep : repL A w (cs.take (i * c) ++ cs.drop (j * c) ++ cs.drop ((i + (l.length - j)) * c)) (zaU l i j) := by
  unfold zaU
  rw [← hc]
  exact ((zcq i h8).append (zcu j h8)).append (zcu _ h8)
 have hiL : (i + (l.length - j)) * c = i * c + (l.length * c - j * c) := by rw [Nat.add_mul, hsub]
 have htl : row.toList.take (l.length * c) = cs.take (i * c) ++ cs.drop (j * c) ++ cs.drop ((i + (l.length - j)) * c) := by
  rw [← hrow]
  simp only [hsize]
  have e1 : cur.toList.take (i * c) = cs.take (i * c) := by rw [← hcur, List.take_take, Nat.min_eq_left (by omega)]
  rw [e1, List.take_append, List.take_of_length_le (by simp only [List.length_append, List.length_take, List.length_drop]; omega)]
  congr 1
  have e2 : (cs.take (i * c) ++ cs.drop (j * c)).length = (i + (l.length - j)) * c := by
   rw [hiL, List.length_append, List.length_take, List.length_drop, hlc]; omega
  have e3 : i * c + (cs.drop (j * c)).length = (i + (l.length - j)) * c := by rw [hiL, List.length_drop, hlc]
  rw [e2, e3, ← hcur, List.drop_take]
 refine V_y (v := .slice (some ⟨g, 0, none⟩) (i + (l.length - j)) cap) (w' := w.setRow g row) (fun a hA' => ?_) rfl rfl hn
  (h _ (hset A _ (some g) _ [g] hmv (fun k hk => by cases hk; simp) (.inr ⟨g, cap, row, _, by rw [zaT hij hj], rfl, setRow_heap w g cur _ e _ h4, by rw [zaT hij hj]; exact h5, h6, by rw [hrs, hc], hrep.keep hmv.ex, by rw [zaT hij hj, hc]; exact htl⟩) fun b' hb' => ⟨.inl hb', (hb b' hb').1, (hb b' hb').2.2⟩) (hmv.tr hB))
 simp only [execOp]
 simp [resolve, invoke, builtin, hA'.eval hx, hA'.eval hy, hrun]
theorem ziW {ρd : Option Nat} {gd : Option (Nat × Bool)} {k : IntKind} {g len cap lo sz : Nat} (hl : lo ≤ len) (hc : len ≤ cap) (ht : P.underlying t = some (.slice e)) (hs : ∀ w, (Go.sizeOf e).run P w = .ok sz w)
  (hx : ev E x = some (.slice (some ⟨g, 0, none⟩) len cap)) (hy : ev E y = some (.int k (lo : Int))) : Y P nn E ⟨ρd, .slice t x (some y) none none, ty, pos, af, gd⟩ w (.slice (some (if lo < cap then ⟨g, lo * sz, none⟩ else ⟨g, 0, none⟩)) (len - lo) (cap - lo)) w := by
 by_cases h : lo < cap
 ·rw [if_pos h]
  have := zlM (P := P) (n := nn) (E := E) (ty := ty) (pos := pos) (af := af) (ρd := ρd) (gd := gd) (w := w) (o := 0) hl h hc ht hs hx hy
  rwa [Nat.zero_add] at this
 ·rw [if_neg h]
  have e1 : lo = cap := by omega
  have h2 := zej (P := P) (n := nn) (E := E) (ty := ty) (pos := pos) (af := af) (ρd := ρd) (g := gd) (w := w) (sz := sz) (v := .slice (some ⟨g, 0, none⟩) len cap) (lo := (lo : Int)) (k := k) ⟨some ⟨g, 0, none⟩, len, cap, lo, len, rfl, rfl, rfl, hl, Nat.le_refl _, hc, rfl⟩ ht hs hx hy
  rw [if_pos (by omega)] at h2
  exact h2
variable {z m : Operand} {ρd : Option Nat} {gd : Option (Nat × Bool)}
theorem ziH {k k2 : IntKind} {g len cap lo hi sz : Nat} (h1 : lo ≤ hi) (h2 : hi ≤ cap) (h3 : lo < cap) (ht : P.underlying t = some (.slice e)) (hs : ∀ w, (Go.sizeOf e).run P w = .ok sz w)
  (hx : ev E x = some (.slice (some ⟨g, 0, none⟩) len cap)) (hy : ev E y = some (.int k (lo : Int))) (hz : ev E z = some (.int k2 (hi : Int))) : Y P nn E ⟨ρd, .slice t x (some y) (some z) none, ty, pos, af, gd⟩ w (.slice (some ⟨g, lo * sz, none⟩) (hi - lo) (cap - lo)) w := by
 intro a hA
 have h4 : ¬ cap = lo := by omega
 have h5 : (⟨g, 0, none⟩ : Addr).add (lo * sz) = ⟨g, lo * sz, none⟩ := by rw [Addr.add_lit, Nat.zero_add]
 simp [execOp, hA.eval hx, hA.eval hy, hA.eval hz, Instr.sliceAt, Instr.slice, Instr.sliceBounds, Instr.sliceBound, asIntOf, underlying, ht, hs, h1, h2, h4, h5]
theorem zlb {k1 k2 k3 : IntKind} {g len cap lo hi mx sz : Nat} (h1 : lo ≤ hi) (h2 : hi ≤ mx) (h3 : mx ≤ cap) (ht : P.underlying t = some (.slice e)) (hs : ∀ w, (Go.sizeOf e).run P w = .ok sz w)
  (hx : ev E x = some (.slice (some ⟨g, 0, none⟩) len cap)) (hy : ev E y = some (.int k1 (lo : Int))) (hz : ev E z = some (.int k2 (hi : Int))) (hm : ev E m = some (.int k3 (mx : Int))) : ∃ u, Y P nn E ⟨ρd, .slice t x (some y) (some z) (some m), ty, pos, af, gd⟩ w u w := by
 refine ⟨.slice (if mx = lo then some ⟨g, 0, none⟩ else some (if lo * sz = 0 then ⟨g, 0, none⟩ else ⟨g, lo * sz, none⟩)) (hi - lo) (mx - lo), fun a hA => ?_⟩
 simp [execOp, hA.eval hx, hA.eval hy, hA.eval hz, hA.eval hm, Instr.sliceAt, Instr.slice, Instr.sliceBounds, Instr.sliceBound, asIntOf, underlying, ht, hs, h1, h2, h3, Addr.add]
omit [GoT α] in
theorem zgG {t2 : TypeId} (hx : ev E x = some (.pointer none)) (hy : ev E y = some (.pointer none)) (ht : P.underlying t = some (.pointer e)) : Y P nn E ⟨ρd, .binOp .eql t x y t2, ty, pos, af, gd⟩ w (.bool true) w := fun a hA => by
 obtain ⟨dp, hd⟩ : ∃ dp, Op.maxDepth = dp + 1 := ⟨_, rfl⟩
 simp only [execOp, hA.eval hx, hA.eval hy]
 simp [eqGuard, binOp, Op.equal, hd, Op.equalIn, underlying, ht]
omit [GoT α] in
theorem zgM {a0 : Addr} {t2 : TypeId} (hx : ev E x = some (.pointer (some a0))) (hy : ev E y = some (.pointer none)) (ht : P.underlying t = some (.pointer e)) : Y P nn E ⟨ρd, .binOp .eql t x y t2, ty, pos, af, gd⟩ w (.bool false) w := fun a hA => by
 obtain ⟨dp, hd⟩ : ∃ dp, Op.maxDepth = dp + 1 := ⟨_, rfl⟩
 simp only [execOp, hA.eval hx, hA.eval hy]
 simp [eqGuard, binOp, Op.equal, hd, Op.equalIn, underlying, ht]
end
end Go.Gw
