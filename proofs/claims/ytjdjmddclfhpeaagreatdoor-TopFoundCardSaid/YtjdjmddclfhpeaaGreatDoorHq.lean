import Derived.Test.YtjdjmddclfhpeaaGreatDoorGv
import Derived.Test.YtjdjmddclfhpeaaGreatDoorGe
import Derived.Lib.AppendZerosOnto
import Derived.Lib.Overlaps
namespace Go.Gw
open Go Go.RowKit Go.Pu
variable {Dw : Prop}
set_option linter.unusedSimpArgs false
set_option linter.unusedVariables false
section open_close
variable {α : Type} [GoT α] {e : TypeId} {v : Value} {l : List α} {A : Nat → Prop} {w : World} {B : Nat} {L : List Ob} {i : Nat}
theorem Mv.self (hA : ∀ b, w.heap.size ≤ b → A b) : Mv Dw B A w A w none := .kp (Kp.refl _) hA
theorem Hp.formS (hH : Hp B A w L) (hi : L[i]? = some (obS e v l)) : ∃ a cap, v = .slice a l.length cap ∧ l.length ≤ cap ∧ l.length ≤ maxLen := by
 obtain ⟨f, hp, hb, hset⟩ := hH.at hi
 rcases hp with ⟨rfl, rfl, _⟩ | ⟨g, cap, cur, cs, rfl, rfl, h4, h5, h6, h7, h8, h9⟩
 ·exact ⟨none, 0, rfl, Nat.le_refl _, Nat.zero_le _⟩
 ·exact ⟨_, cap, rfl, h5, by omega⟩
theorem Hp.openS (hH : Hp B A w L) (hi : L[i]? = some (obS e v l)) (hl : l ≠ []) (hA : ∀ b, w.heap.size ≤ b → A b) :
  ∃ g cap cur, v = .slice (some ⟨g, 0, none⟩) l.length cap ∧ Hp B A w (L.set i (obO g (.cells cur e (0, 0)))) ∧ l.length ≤ cap ∧ cap ≤ maxLen ∧ cur.size = cap * GoT.cells α ∧ repL A w (cur.toList.take (l.length * GoT.cells α)) l := by
 obtain ⟨f, hp, hb, hset⟩ := hH.at hi
 rcases hp with ⟨_, rfl, _⟩ | ⟨g, cap, cur, cs, rfl, rfl, h4, h5, h6, h7, h8, h9⟩
 ·exact absurd rfl hl
 ·exact ⟨g, cap, cur, rfl, hset A w none _ [g] (Mv.self (Dw := True) hA) (fun k hk => by cases hk) ⟨rfl, h4⟩ (fun b hb' => ⟨.inl hb', (hb b hb').1, (hb b hb').2.2⟩), h5, h6, h7, by rw [h9]; exact h8⟩
theorem Hp.closeS {g cap : Nat} {cur : Array Value} (hH : Hp B A w L) (hi : L[i]? = some (obO g (.cells cur e (0, 0)))) (hA : ∀ b, w.heap.size ≤ b → A b) (h5 : l.length ≤ cap) (h6 : cap ≤ maxLen) (h7 : cur.size = cap * GoT.cells α) (h8 : repL A w (cur.toList.take (l.length * GoT.cells α)) l) :
  Hp B A w (L.set i (obS e (.slice (some ⟨g, 0, none⟩) l.length cap) l)) := by
 obtain ⟨f, ⟨rfl, hp⟩, hb, hset⟩ := hH.at hi
 exact hset A w none _ [g] (Mv.self (Dw := True) hA) (fun k hk => by cases hk) (.inr ⟨g, cap, cur, _, rfl, rfl, hp, h5, h6, h7, h8, rfl⟩) (fun b hb' => ⟨.inl hb', (hb b hb').1, (hb b hb').2.2⟩)
end open_close
section steps
variable {P : Program} {n : Fr} {ops : Array Oper} {Q : Exit → Act → World → Prop} {E : Env} {w : World} {rest : List Oper} {d : Nat}
variable {ty t t2 e : TypeId} {pos : String} {af : Array Edge} {x y z : Operand} {A : Nat → Prop} {ρd : Option Nat} {gd : Option (Nat × Bool)} {B : Nat} {L : List Ob} {i : Nat}
theorem Y_cap {a : Option Addr} {len cap : Nat} {ats : Array TypeId} (h0 : ats[0]? = some t) (ht : P.underlying t = some (.slice e)) (hx : ev E x = some (.slice a len cap)) :
  Y P n E ⟨ρd, .call ⟨.builtin .cap, #[x], ats⟩, ty, pos, af, gd⟩ w (.int .i64 cap) w := fun a hA => by
 simp [execOp, resolve, invoke, builtin, hA.eval hx, Builtin.cap_, h0, underlying, ht, goInt]
theorem add_none (g o j : Nat) : (⟨g, o, none⟩ : Addr).add j = ⟨g, o + j, none⟩ := by unfold Addr.add; split <;> simp_all
theorem Y_slLo {k : IntKind} {g o len cap lo sz : Nat} (hl : lo ≤ len) (hlt : lo < cap) (hc : len ≤ cap) (ht : P.underlying t = some (.slice e)) (hs : ∀ w, (Go.sizeOf e).run P w = .ok sz w)
  (hx : ev E x = some (.slice (some ⟨g, o, none⟩) len cap)) (hy : ev E y = some (.int k (lo : Int))) : Y P n E ⟨ρd, .slice t x (some y) none none, ty, pos, af, gd⟩ w (.slice (some ⟨g, o + lo * sz, none⟩) (len - lo) (cap - lo)) w := by
 have h := Y_sliceLL (P := P) (n := n) (E := E) (ty := ty) (pos := pos) (af := af) (ρd := ρd) (g := gd) (w := w) (sz := sz) (v := .slice (some ⟨g, o, none⟩) len cap) (lo := (lo : Int)) (k := k) ⟨some ⟨g, o, none⟩, len, cap, lo, len, rfl, rfl, rfl, hl, Nat.le_refl _, hc, rfl⟩ ht hs hx hy
 rw [if_neg (by omega), show (some (⟨g, o, none⟩ : Addr)).map (·.add (lo * sz)) = some ⟨g, o + lo * sz, none⟩ from congrArg some (add_none g o (lo * sz))] at h
 exact h
theorem Y_slHi {k : IntKind} {g len cap hi sz : Nat} (hh : hi ≤ cap) (ht : P.underlying t = some (.slice e)) (hs : ∀ w, (Go.sizeOf e).run P w = .ok sz w)
  (hx : ev E x = some (.slice (some ⟨g, 0, none⟩) len cap)) (hz : ev E z = some (.int k (hi : Int))) : Y P n E ⟨ρd, .slice t x none (some z) none, ty, pos, af, gd⟩ w (.slice (some ⟨g, 0, none⟩) hi cap) w := by
 intro a hA
 have hb : ¬ cap < hi := by omega
 simp [execOp, hA.eval hx, hA.eval hz, Instr.sliceAt, Instr.slice, Instr.sliceBounds, Instr.sliceBound, asIntOf, underlying, ht, hs, hb, Addr.add]
theorem V_copyO {g o dLen dCap sLen sCap N size : Nat} {a : Addr} {cur : Array Value} {ct : TypeId} {cs : List Value} {ii : TypeInfo} (hH : Hp B A w L) (hi : L[i]? = some (obO g (.cells cur ct (0, 0)))) (ht : P.underlying t = some (.slice e)) (hinfo : P.info? e = some ii) (hsz : ii.size = size)
  (hx : ev E x = some (.slice (some ⟨g, o, none⟩) dLen dCap)) (hy : ev E y = some (.slice (some a) sLen sCap)) (hN : Nat.min sLen dLen = N) (hl : cs.length = N * size) (hsrc : ∀ j v, cs[j]? = some v → w.cell? (a.add j) = some v)
  (hfit : o + cs.length ≤ cur.size) (h1 : ∀ v ∈ cs, v.oneCell' = true) (hB : B ≤ w.heap.size) (hA : ∀ b, w.heap.size ≤ b → A b) (hn : Nat.blt d n.sz = true)
  (h : ∀ w1, Hp B A w1 (L.set i (obO g (.cells (cur.toList.take o ++ cs ++ cur.toList.drop (o + cs.length)).toArray ct (0, 0)))) → Tr Dw B A w A w1 → V P n ops Q rest ((d, .int .i64 (N : Int)) :: E) w1) :
  V P n ops Q (⟨some d, .call ⟨.builtin .copy, #[x, y], #[t, t2]⟩, ty, pos, af, none⟩ :: rest) E w := by
 obtain ⟨f, ⟨rfl, hg⟩, hb, hset⟩ := hH.at hi
 have hrun : (Builtin.copy_ #[t, t2] ty #[.slice (some ⟨g, o, none⟩) dLen dCap, .slice (some a) sLen sCap]).run P w = .ok (goInt N) (w.setRow g (cur.toList.take o ++ cs ++ cur.toList.drop (o + cs.length)).toArray) := by
  have hld := run_loadCells_list (P := P) w a cs hsrc
  have hst := run_storeCells_at P g o ct cs 0 cur w hg (by simpa using hfit) h1
  rw [hl] at hld
  simp [Builtin.copy_, run_underlying ht, Builtin.lenOf, Builtin.firstCells, sizeOf, typeInfo, hinfo, hsz, hN, hld, hst]
 have hmv : Mv Dw B A w A (w.setRow g (cur.toList.take o ++ cs ++ cur.toList.drop (o + cs.length)).toArray) (some g) :=
  ⟨rfl, rfl, rfl, by simp, fun _ => Nat.le_refl _, fun k hk hne => setRow_other w g k _ (fun e => hne (by rw [e])), fun k hk => by cases hk; exact ⟨(hb g (by simp)).1, (hb g (by simp)).2.2⟩, fun _ h => h, fun _ _ h => h, fun b' hb' => hA b' (by simpa using hb')⟩
 refine V_y (w' := _) (v := .int .i64 (N : Int)) (fun ac hA' => ?_) rfl rfl hn (h _ (hset A _ (some g) _ [g] hmv (fun k hk => by cases hk; simp) ⟨rfl, setRow_heap w g cur _ ct _ hg⟩ fun b' hb' => ⟨.inl hb', (hb b' hb').1, (hb b' hb').2.2⟩) (hmv.tr hB))
 simp only [execOp, resolve, invoke, builtin, List.map_toArray, List.map_cons, List.map_nil, hA'.eval hx, hA'.eval hy]
 simp [hrun, goInt]
theorem V_appendZ {kn : IntKind} {g sLen sCap k size bytes : Nat} {ti : TypeInfo} {zv : Value} {olds : List Value} (hH : Hp B A w L) (ht : P.underlying t = some (.slice e)) (htn : P.underlying t2 = some (.int kn)) (hti : P.info? e = some ti) (hz : ti.zero = some zv)
  (hsize : ti.size = size) (hby : ti.bytes = bytes) (hzs : zv.cells.size = size) (h0 : 0 < size) (hk : 0 < k) (hg : sCap < sLen + k) (h63 : sLen + k ≤ maxLen) (hlim : (sLen + k) * bytes ≤ 140737488355328)
  (hl : olds.length = sLen * size) (hsrc : ∀ j v, olds[j]? = some v → w.cell? ⟨g, 0 + j, none⟩ = some v)
  (hB : B ≤ w.heap.size) (hA : ∀ b, w.heap.size ≤ b → A b) (hx : ev E x = some (.slice (some ⟨g, 0, none⟩) sLen sCap)) (hy : ev E y = some (.int .i64 (k : Int))) (hn : Nat.blt d n.sz = true)
  (h : ∀ g2 cap2 row w1 A1, Hp B A1 w1 (obO g2 (.cells row e (0, 0)) :: L) → Tr Dw B A w A1 w1 → sLen + k ≤ cap2 → cap2 ≤ maxLen → row.size = cap2 * size → row.toList.take (sLen * size) = olds → V P n ops Q rest ((d, .slice (some ⟨g2, 0, none⟩) (sLen + k) cap2) :: E) w1) :
  V P n ops Q (⟨some d, .call ⟨.builtin .append, #[x, y], #[t, t2]⟩, ty, pos, af, none⟩ :: rest) E w := by
 subst hsize
 subst hby
 have hsmall : ((sLen + k : Nat) : Int) ≤ 9223372036854775807 := by simp only [maxLen] at h63; omega
 have hhold : (Builtin.firstCells ti.size sLen (.slice (some ⟨g, 0, none⟩) sLen sCap)).run P w.drew = .ok olds.toArray w.drew := by
  have := run_loadCells_list (P := P) w.drew ⟨g, 0, none⟩ olds (fun j v hj => by rw [add_none]; exact hsrc j v hj)
  rw [hl] at this
  exact this
 have h48 : k * ti.bytes ≤ 281474976710656 := by
  have : k * ti.bytes ≤ (sLen + k) * ti.bytes := Nat.mul_le_mul_right _ (by omega)
  omega
 have hrun := Go.Lib.run_append_grow_zeros (P := P) w t t2 ty e ti zv .i64 kn ht htn hti hz (some ⟨g, 0, none⟩) sLen sCap olds hhold k hk h0 hg hsmall h48 (growslice_fits (by omega) hlim)
 have hge := grownCap_ge w (sLen + k) sCap e
 have hcm : grownCap w (sLen + k) sCap e ≤ maxLen := grownCap_le_maxLen w (sLen + k) sCap e h63
 generalize grownCap w (sLen + k) sCap e = cap2 at hrun hge hcm
 have hmv : Mv Dw B A w (fun b => A b ∧ b ≠ w.heap.size) (w.drew.alloc (.cells (olds.toArray ++ Builtin.zeroCells zv.cells k ++ Builtin.zeroCells zv.cells (cap2 - (sLen + k))) e)) none := by
  have hk := Kp.alloc (Dw := Dw) w.drew (.cells (olds.toArray ++ Builtin.zeroCells zv.cells k ++ Builtin.zeroCells zv.cells (cap2 - (sLen + k))) e)
  exact ⟨hk.os, hk.tape, hk.output, hk.size, fun hd => Nat.le_trans (Nat.le_succ _) (hk.dr hd), fun j hj _ => hk.block j hj, (fun j hj => by cases hj), fun j hj => hj.1, fun j hj ha => ⟨ha, by omega⟩, fun b hb => ⟨hA b (Nat.le_trans hk.size hb), by
   have h1 : w.drew.heap.size < (w.drew.alloc (.cells (olds.toArray ++ Builtin.zeroCells zv.cells k ++ Builtin.zeroCells zv.cells (cap2 - (sLen + k))) e)).heap.size := (Array.getElem?_eq_some_iff.1 (heap_alloc_new w.drew _)).1
   have h2 : w.drew.heap.size = w.heap.size := rfl
   omega⟩⟩
 refine V_y (w' := _) (v := .slice (some ⟨w.heap.size, 0, none⟩) (sLen + k) cap2) (fun ac hA' => ?_) rfl rfl hn (h w.heap.size cap2 (olds.toArray ++ Builtin.zeroCells zv.cells k ++ Builtin.zeroCells zv.cells (cap2 - (sLen + k))) _ _ (hH.new hmv hB (f' := [w.heap.size]) ⟨rfl, heap_alloc_new w.drew _⟩ fun b hb => by simp at hb; subst hb; exact ⟨Nat.le_refl _, fun h => h.2 rfl⟩) (hmv.tr hB) hge hcm ?_ ?_)
 ·simp only [execOp, resolve, invoke, builtin, List.map_toArray, List.map_cons, List.map_nil, hA'.eval hx, hA'.eval hy]
  simp [hrun]
 ·simp only [Array.size_append, List.size_toArray, size_zeroCells, hzs, hl, ← Nat.add_mul]
  congr 1
  omega
 ·simp only [Array.toList_append, List.append_assoc]
  rw [← hl]
  exact List.take_left
end steps
section rows
variable {α : Type} [GoT α] {A : Nat → Prop} {w : World} {B : Nat} {L : List Ob} {i j : Nat} {e : TypeId} {v : Value} {l : List α}
theorem rows_insert {cs ds : List Value} {l vs : List α} {i0 : Nat} (hc : repL A w cs l) (hd : repL A w ds vs) : repL A w (cs.take (i0 * GoT.cells α) ++ ds ++ cs.drop (i0 * GoT.cells α)) (l.take i0 ++ vs ++ l.drop i0) :=
 ((repL_take i0 hc).append hd).append (repL_drop i0 hc)
theorem row_cell {g k : Nat} {cur : Array Value} {u : Value} (hg : w.heap[g]? = some (.cells cur e (0, 0))) (h : cur.toList[k]? = some u) : w.cell? ⟨g, k, none⟩ = some u := by
 simp only [World.cell?, hg]
 simpa using h
theorem Hp.rowAt {b cap : Nat} (hH : Hp B A w L) (hj : L[j]? = some (obS (α := α) e (.slice (some ⟨b, 0, none⟩) l.length cap) l)) : ∃ cur, w.heap[b]? = some (.cells cur e (0, 0)) ∧ cur.size = cap * GoT.cells α ∧ repL A w (cur.toList.take (l.length * GoT.cells α)) l ∧ l.length ≤ cap := by
 obtain ⟨f, hp, hb, hset⟩ := hH.at hj
 rcases hp with ⟨h, _⟩ | ⟨g, cap', cur, cs, hv, rfl, h4, h5, h6, h7, h8, h9⟩
 ·cases h
 ·simp only [Value.slice.injEq, Option.some.injEq, Addr.mk.injEq, and_true] at hv
  obtain ⟨rfl, _, rfl⟩ := hv
  exact ⟨cur, h4, h7, by rw [h9]; exact h8, h5⟩
theorem Hp.ne {O O' : Ob} (hH : Hp B A w L) (hi : L[i]? = some O) (hj : L[j]? = some O') (hij : i ≠ j) : ∃ f f', O.P f A w ∧ O'.P f' A w ∧ ∀ b ∈ f, b ∉ f' := by
 obtain ⟨U, ⟨f, g, _, hd, hp, hs⟩, _⟩ := hH.front hi
 obtain ⟨k, hk⟩ : ∃ k, (L.eraseIdx i)[k]? = some O' := by
  rcases Nat.lt_or_ge j i with h | h
  ·exact ⟨j, by rw [List.getElem?_eraseIdx_of_lt h]; exact hj⟩
  ·exact ⟨j - 1, by rw [List.getElem?_eraseIdx_of_ge (by omega), show j - 1 + 1 = j by omega]; exact hj⟩
 obtain ⟨f', hp', hsub, _⟩ := hs.at hk
 exact ⟨f, f', hp, hp', fun b hb hb' => hd b hb (hsub b hb')⟩
theorem Hp.rowsApart {g cap b capv : Nat} {vs : List α} (hH : Hp B A w L) (hi : L[i]? = some (obS (α := α) e (.slice (some ⟨g, 0, none⟩) l.length cap) l)) (hj : L[j]? = some (obS (α := α) e (.slice (some ⟨b, 0, none⟩) vs.length capv) vs)) (hij : i ≠ j) : b ≠ g := by
 obtain ⟨f, f', h1, h2, h3⟩ := hH.ne hi hj hij
 rcases h1 with ⟨h, _⟩ | ⟨g1, _, _, _, hv, rfl, _⟩
 ·cases h
 rcases h2 with ⟨h, _⟩ | ⟨g2, _, _, _, hv2, rfl, _⟩
 ·cases h
 simp only [Value.slice.injEq, Option.some.injEq, Addr.mk.injEq, and_true] at hv hv2
 obtain ⟨rfl, _⟩ := hv
 obtain ⟨rfl, _⟩ := hv2
 intro h
 exact h3 b (by simp [h]) (by simp)
theorem Hp.objAt {g : Nat} {o : Obj} (hH : Hp B A w L) (hi : L[i]? = some (obO g o)) : w.heap[g]? = some o := by
 obtain ⟨f, ⟨rfl, hp⟩, _, _⟩ := hH.at hi
 exact hp
theorem set_perm (O X : Ob) : ∀ {L : List Ob} {i : Nat}, i < L.length → (O :: L.set i X).Perm (X :: L.set i O)
 | [], _, h => by simp at h
 | x :: L, 0, _ => .swap _ _ _
 | x :: L, i + 1, h => ((List.Perm.swap _ _ _).trans ((set_perm O X (by simpa using h)).cons x)).trans (.swap _ _ _)
theorem Hp.takes {O X : Ob} (hH : Hp B A w (O :: L.set i X)) (h : i < L.length) : Hp B A w (L.set i O) := by
 have := (hH.perm (set_perm O X h)).drop (i := 0) rfl
 exact this
variable {V : Type} {X ds cs1 X1 R R1 : List V} {p q nn : Nat}
theorem ins_place (hp : p ≤ nn) (hX : nn + q ≤ X.length) (hd : ds.length = q) (h1 : X1 = X.take (p + q) ++ (X.drop p).take (nn - p) ++ X.drop (p + q + ((X.drop p).take (nn - p)).length)) :
  (X1.take p ++ ds ++ X1.drop (p + q)).take (nn + q) = (X.take nn).take p ++ ds ++ (X.take nn).drop p ∧ X1.length = X.length := by
 have hl : ((X.drop p).take (nn - p)).length = nn - p := by rw [List.length_take, List.length_drop]; omega
 have hl2 : (X.take (p + q)).length = p + q := by rw [List.length_take]; omega
 have e0 : (X.take nn).drop p = (X.drop p).take (nn - p) := by rw [List.drop_take]
 have e1 : X1.take p = X.take p := by rw [h1, List.append_assoc, List.take_append_of_le_length (by omega), List.take_take, Nat.min_eq_left (by omega)]
 have e2 : X1.drop (p + q) = (X.drop p).take (nn - p) ++ X.drop (p + q + (nn - p)) := by
  rw [h1, hl, List.append_assoc, List.drop_append, List.drop_eq_nil_of_le (by omega), hl2, Nat.sub_self, List.nil_append, List.drop_zero]
 refine ⟨?_, ?_⟩
 ·rw [e1, e2, e0, List.take_take, Nat.min_eq_left hp, ← List.append_assoc]
  have : (X.take p ++ ds ++ (X.drop p).take (nn - p)).length = nn + q := by
   simp only [List.length_append, hl, hd, List.length_take]; omega
  rw [← this, List.take_left]
 ·rw [h1, hl]
  simp only [List.length_append, hl, hl2, List.length_drop]
  omega
theorem ins_grow (hp : p ≤ nn) (hX : nn ≤ X.length) (hR : nn + q ≤ R.length) (hRX : R.take p = X.take p) (hd : ds.length = q) (h1 : R1 = R.take p ++ ds ++ R.drop (p + q)) :
  (R1.take (p + q) ++ (X.drop p).take (nn - p) ++ R1.drop (p + q + ((X.drop p).take (nn - p)).length)).take (nn + q) = (X.take nn).take p ++ ds ++ (X.take nn).drop p ∧ R1.length = R.length := by
 have hl : ((X.drop p).take (nn - p)).length = nn - p := by rw [List.length_take, List.length_drop]; omega
 have hlp : (X.take p).length = p := by rw [List.length_take]; omega
 have e0 : (X.take nn).drop p = (X.drop p).take (nn - p) := by rw [List.drop_take]
 have e1 : R1.take (p + q) = X.take p ++ ds := by
  rw [h1, hRX]
  have : (X.take p ++ ds).length = p + q := by rw [List.length_append, hlp, hd]
  rw [← this, List.take_left]
 refine ⟨?_, ?_⟩
 ·rw [e1, e0, List.take_take, Nat.min_eq_left hp]
  have : (X.take p ++ ds ++ (X.drop p).take (nn - p)).length = nn + q := by
   simp only [List.length_append, hl, hlp, hd]; omega
  rw [← this, List.take_left]
 ·rw [h1, hRX]
  simp only [List.length_append, hlp, hd, List.length_drop]
  omega
end rows
end Go.Gw
