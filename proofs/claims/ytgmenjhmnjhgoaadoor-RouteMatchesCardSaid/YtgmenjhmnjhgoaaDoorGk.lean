/-
  A clock: a struct in a block, whose last field is a map of what was asked for before.
-/
import Derived.Test.YtgmenjhmnjhgoaaDoorGd
import Derived.MapKept
import Derived.Laws.StructEq
namespace Go.Gw
open Go Go.RowKit Go.Pu
variable {Dw : Prop}
set_option linter.unusedSimpArgs false
set_option linter.unusedVariables false

/-- a map from numbers to slices, each of them what F says -/
def obMF {σ : Type} [GoT σ] (F : Int → Option (List σ)) (mb : Nat) : Ob where
  P f A w := f = [mb] ∧ ∃ es clk, w.heap[mb]? = some (.map es clk) ∧ ∀ e ∈ es.toList, ∃ d l, e.key = .int .i64 d ∧ F d = some l ∧ Sl A w e.val l
  keep h he hb := by
    obtain ⟨rfl, es, clk, h1, h2⟩ := h
    refine ⟨rfl, es, clk, by rw [hb mb (by simp)]; exact h1, fun e hm => ?_⟩
    obtain ⟨d, l, q1, q2, q3⟩ := h2 e hm
    exact ⟨d, l, q1, q2, q3.keep he⟩
  lt h b' hb' := by
    obtain ⟨rfl, es, clk, h1, _⟩ := h
    simp at hb'
    subst hb'
    exact (Array.getElem?_eq_some_iff.1 h1).1

/-- the struct: c, then the map -/
def ckL {γ σ : Type} [GoT γ] [GoT σ] (tb : TypeId) (F : γ → Int → Option (List σ)) (b : Nat) (c : γ) (i : Nat × List Value) : List Ob :=
  [obF (fun A w => GoT.rep A w i.2 c) (fun h he => GoT.keep h he), obC b (i.2 ++ [.map (some i.1)]) tb, obMF (F c) i.1]
def obCk {γ σ : Type} [GoT γ] [GoT σ] (tb : TypeId) (F : γ → Int → Option (List σ)) (b : Nat) (c : γ) : Ob := obE (ckL tb F b c)

section
variable {B : Nat} {A A1 : Nat → Prop} {w w1 : World} {L : List Ob} {i : Nat} {γ σ : Type} [GoT γ] [GoT σ] {tb : TypeId} {F : γ → Int → Option (List σ)} {b : Nat} {c : γ}

/-- the struct's first part, read -/
theorem Hp.ck (h : Hp B A w L) (hi : L[i]? = some (obCk tb F b c)) : El (fun _ => True) w b 0 c := by
  have h1 := h.front hi
  obtain ⟨⟨mb, cs⟩, h2⟩ := Hp.open h1
  obtain ⟨_, ⟨_, hr⟩, _⟩ := h2.at (i := 0) rfl
  obtain ⟨q1, q2, _⟩ := h2.cells (i := 1) rfl
  have hr' : GoT.rep (fun _ => True) w cs c := GoT.keep hr ⟨Nat.le_refl _, fun _ _ _ => ⟨trivial, rfl⟩⟩
  refine ⟨trivial, (Array.getElem?_eq_some_iff.1 q2).1, cs, hr', fun j u hj => q1 j u ?_⟩
  rw [List.getElem?_append_left (List.getElem?_eq_some_iff.1 hj).1]
  exact hj
end

section steps
variable {P : Program} {n : Fr} {ops : Array Oper} {Q : Exit → Act → World → Prop} {E : Env} {w : World} {rest : List Oper} {v u : Value} {d : Nat}
variable {ty t kt et : TypeId} {pos : String} {af : Array Edge} {x y z : Operand} {A : Nat → Prop} {σ : Type} [GoT σ] {B : Nat} {L : List Ob} {i mb : Nat} {F : Int → Option (List σ)}

theorem V_makeMapF (F : Int → Option (List σ)) (hH : Hp B A w L) (hB : B ≤ w.heap.size) (hA : ∀ b, w.heap.size ≤ b → A b) (hn : Nat.blt d n.sz = true)
    (h : ∀ mb w1 A1, Hp B A1 w1 (obMF F mb :: L) → Tr Dw B A w A1 w1 → V P n ops Q rest ((d, .map (some mb)) :: E) w1) :
    V P n ops Q (⟨some d, .makeMap t none, ty, pos, af, none⟩ :: rest) E w :=
  V_y (w' := w.alloc (.map #[] 0)) (v := .map (some w.heap.size)) (fun a hA => by simp only [execOp]; rfl) rfl rfl hn
    (h _ _ _ (hH.new (mv_alloc (Dw := Dw) B _ hA) hB ⟨rfl, #[], 0, heap_alloc_new w _, fun e he => by simp at he⟩ fun b hb => by simp at hb; subst hb; exact ⟨Nat.le_refl _, fun h => h.2 rfl⟩) ((mv_alloc B _ hA).tr hB))

theorem V_lookupF {k : Int} {zv : Value} (hH : Hp B A w L) (hi : L[i]? = some (obMF F mb)) (ht : P.underlying t = some (.map kt et)) (hk : P.underlying kt = some (.int .i64)) (hz : ∀ w, (zeroValue et).run P w = .ok zv w)
    (hx : ev E x = some (.map (some mb))) (hy : ev E y = some (.int .i64 k)) (hn : Nat.blt d n.sz = true)
    (h1 : ∀ v l, F k = some l → Sl A w v l → V P n ops Q rest ((d, .tuple #[v, .bool true]) :: E) w)
    (h2 : V P n ops Q rest ((d, .tuple #[zv, .bool false]) :: E) w) :
    V P n ops Q (⟨some d, .lookup t x y true, ty, pos, af, none⟩ :: rest) E w := by
  obtain ⟨f, ⟨rfl, es, clk, q1, q2⟩, _, _⟩ := hH.at hi
  have hks : ∀ e ∈ es.toList, MapKept.IsKey (.int .i64) e.key := fun e he => by
    obtain ⟨d, l, q3, _⟩ := q2 e he
    rw [q3]
    rfl
  have hkk : MapKept.IsKey (.int .i64) (.int .i64 k) := rfl
  rcases MapKept.findNow_spec hkk es.toList 0 hks with ⟨r1, r2⟩ | ⟨j, e, r1, r2, r3⟩
  · refine V_y (w' := w) (v := .tuple #[zv, .bool false]) (fun a hA' => ?_) rfl rfl hn h2
    simp only [execOp, hA'.eval hx, hA'.eval hy, Instr.lookup]
    simp [run_underlying ht, MapKept.run_getObj_map q1, MapKept.run_checkKey hk hkk, MapKept.run_findKey hk r1, Result.andThen, hz]
  · obtain ⟨d', l, q3, q4, q5⟩ := q2 e (List.mem_of_getElem? r2)
    rw [r3] at q3
    cases q3
    refine V_y (w' := w) (v := .tuple #[e.val, .bool true]) (fun a hA' => ?_) rfl rfl hn (h1 _ _ q4 q5)
    simp only [execOp, hA'.eval hx, hA'.eval hy, Instr.lookup]
    simp [run_underlying ht, MapKept.run_getObj_map q1, MapKept.run_checkKey hk hkk, MapKept.run_findKey hk r1, Result.andThen]

theorem V_mapUpdateF {k : Int} {l : List σ} (hH : Hp B A w L) (hi : L[i]? = some (obMF F mb)) (ht : P.underlying t = some (.map kt et)) (hk : P.underlying kt = some (.int .i64)) (hl : F k = some l) (hs : Sl A w v l)
    (hx : ev E x = some (.map (some mb))) (hy : ev E y = some (.int .i64 k)) (hz : ev E z = some v) (hB : B ≤ w.heap.size) (hA : ∀ b, w.heap.size ≤ b → A b)
    (h : ∀ w1, Hp B A w1 (L.set i (obMF F mb)) → Tr Dw B A w A w1 → V P n ops Q rest E w1) :
    V P n ops Q (⟨none, .mapUpdate t x y z, ty, pos, af, none⟩ :: rest) E w := by
  obtain ⟨f, ⟨rfl, es, clk, q1, q2⟩, hb, hset⟩ := hH.at hi
  have hks : ∀ e ∈ es.toList, MapKept.IsKey (.int .i64) e.key := fun e he => by
    obtain ⟨d, l, q3, _⟩ := q2 e he
    rw [q3]
    rfl
  have hkk : MapKept.IsKey (.int .i64) (.int .i64 k) := rfl
  have hlt : mb < w.heap.size := (Array.getElem?_eq_some_iff.1 q1).1
  have hmv : ∀ o, Mv Dw B A w A { w with heap := w.heap.setIfInBounds mb o } (some mb) := fun o =>
    ⟨rfl, rfl, rfl, by simp, fun _ => Nat.le_refl _, fun k hk hne => by
      show (w.heap.setIfInBounds mb o)[k]? = w.heap[k]?
      exact (MapKept.heap_set q1).2 k fun e => hne (by rw [e]), fun k hk => by cases hk; exact ⟨(hb mb (by simp)).1, (hb mb (by simp)).2.2⟩, fun _ h => h, fun _ _ h => h, fun b' hb' => hA b' (by simpa using hb')⟩
  have hex : ∀ o, Ex A w A { w with heap := w.heap.setIfInBounds mb o } := fun o => (hmv o).ex
  have fin : ∀ es' clk', (∀ e ∈ es'.toList, e ∈ es.toList ∨ (e.key = .int .i64 k ∧ e.val = v)) → Hp B A { w with heap := w.heap.setIfInBounds mb (.map es' clk') } (L.set i (obMF F mb)) := fun es' clk' hes =>
    hset A _ (some mb) (obMF F mb) [mb] (hmv _) (fun k hk => by cases hk; simp) ⟨rfl, es', clk', (MapKept.heap_set q1).1, fun e he => by
      rcases hes e he with h | ⟨h1, h2⟩
      · obtain ⟨d, l, r1, r2, r3⟩ := q2 e h
        exact ⟨d, l, r1, r2, r3.keep (hex _)⟩
      · exact ⟨k, l, h1, hl, by rw [h2]; exact hs.keep (hex _)⟩⟩ fun b' hb' => ⟨.inl hb', (hb b' hb').1, (hb b' hb').2.2⟩
  rcases MapKept.findNow_spec hkk es.toList 0 hks with ⟨r1, r2⟩ | ⟨j, e, r1, r2, r3⟩
  · refine V_s (w' := { w with heap := w.heap.setIfInBounds mb (.map (es.push { key := .int .i64 k, val := v, born := clk }) (clk + 1)) }) (fun a hA' => ?_) rfl rfl (h _ (fin _ _ fun e he => ?_) ((hmv _).tr hB))
    · simp only [execOp, hA'.eval hx, hA'.eval hy, hA'.eval hz, Instr.mapUpdate]
      simp [run_underlying ht, MapKept.run_getObj_map q1, MapKept.run_checkKey hk hkk, MapKept.run_findKey hk r1, MapKept.run_setObj_map _ q1, Result.andThen]
    · simp only [Array.toList_push, List.mem_append, List.mem_singleton] at he
      rcases he with h | rfl
      · exact .inl h
      · exact .inr ⟨rfl, rfl⟩
  · have hj : es[j]? = some e := by rw [← Array.getElem?_toList]; exact r2
    refine V_s (w' := { w with heap := w.heap.setIfInBounds mb (.map (es.modify j fun e => { e with key := .int .i64 k, val := v }) clk) }) (fun a hA' => ?_) rfl rfl (h _ (fin _ _ fun e' he => ?_) ((hmv _).tr hB))
    · simp only [execOp, hA'.eval hx, hA'.eval hy, hA'.eval hz, Instr.mapUpdate]
      simp [run_underlying ht, MapKept.run_getObj_map q1, MapKept.run_checkKey hk hkk, MapKept.run_findKey hk r1, MapKept.run_setObj_map _ q1, MapKept.run_keyThatStays hkk, hj, r3, Result.andThen]
    · obtain ⟨j', hj'⟩ := List.mem_iff_getElem?.1 he
      rw [Array.getElem?_toList, Array.getElem?_modify] at hj'
      split at hj'
      · cases h9 : es[j']? with
        | none => rw [h9] at hj'; simp at hj'
        | some e0 => rw [h9] at hj'; simp at hj'; subst hj'; exact .inr ⟨rfl, rfl⟩
      · exact .inl (by rw [List.mem_iff_getElem?]; exact ⟨j', by rw [Array.getElem?_toList]; exact hj'⟩)
end steps

section ops
variable {P : Program} {n : Fr} {E : Env} {w : World} {ρd : Option Nat} {ty t t2 : TypeId} {pos : String} {af : Array Edge} {g : Option (Nat × Bool)} {x y : Operand}
theorem Y_beql {a b : Bool} (ht : P.underlying t = some .bool) (hx : ev E x = some (.bool a)) (hy : ev E y = some (.bool b)) : Y P n E ⟨ρd, .binOp .eql t x y t2, ty, pos, af, g⟩ w (.bool (a == b)) w := fun _ hA => by
  obtain ⟨dp, hd⟩ : ∃ dp, Op.maxDepth = dp + 1 := ⟨_, rfl⟩
  simp only [execOp, hA.eval hx, hA.eval hy]
  simp [eqGuard, binOp, Op.equal, hd, Op.equalIn, underlying, ht]
theorem Y_bneq {a b : Bool} (ht : P.underlying t = some .bool) (hx : ev E x = some (.bool a)) (hy : ev E y = some (.bool b)) : Y P n E ⟨ρd, .binOp .neq t x y t2, ty, pos, af, g⟩ w (.bool (!(a == b))) w := fun _ hA => by
  obtain ⟨dp, hd⟩ : ∃ dp, Op.maxDepth = dp + 1 := ⟨_, rfl⟩
  simp only [execOp, hA.eval hx, hA.eval hy]
  simp [eqGuard, binOp, Op.equal, hd, Op.equalIn, underlying, ht]
theorem Y_eqlA {xs ys : Array Value} {b : Bool} (h : ∀ w, (Op.equalIn 10000 t (.agg xs) (.agg ys)).run P w = .ok b w) (hg : P.eqGuardType P.depth t = false) (hx : ev E x = some (.agg xs)) (hy : ev E y = some (.agg ys)) : Y P n E ⟨ρd, .binOp .eql t x y t2, ty, pos, af, g⟩ w (.bool b) w := fun _ hA => by
  simp only [execOp, hA.eval hx, hA.eval hy]
  simp [run_eqGuard_agg w _ _ _ _ _ _ hg, run_eql_struct w, h]
theorem Y_neqA {xs ys : Array Value} {b : Bool} (h : ∀ w, (Op.equalIn 10000 t (.agg xs) (.agg ys)).run P w = .ok b w) (hg : P.eqGuardType P.depth t = false) (hx : ev E x = some (.agg xs)) (hy : ev E y = some (.agg ys)) : Y P n E ⟨ρd, .binOp .neq t x y t2, ty, pos, af, g⟩ w (.bool (!b)) w := fun _ hA => by
  simp only [execOp, hA.eval hx, hA.eval hy]
  simp [run_eqGuard_agg w _ _ _ _ _ _ hg, run_neq_struct w, h]
end ops
end Go.Gw
