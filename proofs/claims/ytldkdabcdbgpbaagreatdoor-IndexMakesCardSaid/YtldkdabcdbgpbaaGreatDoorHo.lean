/-
  A range over a map of the call's own whose entries are known one by one.
-/
import Derived.Test.YtldkdabcdbgpbaaGreatDoorHa
import Derived.Maps.RangeRun
namespace Go.Gw
open Go Go.RowKit Go.Pu Go.ChangeMaps
variable {Dw : Prop}
set_option linter.unusedSimpArgs false
set_option linter.unusedVariables false

section steps
variable {P : Program} {n : Fr} {ops : Array Oper} {Q : Exit → Act → World → Prop} {E : Env} {w : World} {rest : List Oper} {u : Value} {d : Nat}
variable {ty t kt et : TypeId} {pos : String} {af : Array Edge} {x y z : Operand} {A : Nat → Prop} {B : Nat} {L : List Ob} {i j mb rb : Nat} {es : Array MapEntry} {clk since c0 : Nat} {seen : Array Nat}

theorem V_makeMapE (hH : Hp B A w L) (hB : B ≤ w.heap.size) (hA : ∀ b, w.heap.size ≤ b → A b) (hn : Nat.blt d n.sz = true)
    (h : ∀ mb w1 A1, Hp B A1 w1 (obO mb (.map #[] 0) :: L) → Tr Dw B A w A1 w1 → V P n ops Q rest ((d, .map (some mb)) :: E) w1) :
    V P n ops Q (⟨some d, .makeMap t none, ty, pos, af, none⟩ :: rest) E w :=
  V_y (w' := w.alloc (.map #[] 0)) (v := .map (some w.heap.size)) (fun a hA => by simp only [execOp]; rfl) rfl rfl hn
    (h _ _ _ (hH.alloc _ hB hA) ((mv_alloc B _ hA).tr hB))

theorem mv_set (o : Obj) (hb : mb < w.heap.size) (hB : B ≤ mb) (hAm : ¬ A mb) (hA : ∀ b, w.heap.size ≤ b → A b) : Mv Dw B A w A (setBlock w mb o) (some mb) :=
  ⟨rfl, rfl, rfl, by simp [setBlock], fun _ => Nat.le_refl _, fun k hk hne => by
    show (w.heap.setIfInBounds mb o)[k]? = w.heap[k]?
    rw [Array.getElem?_setIfInBounds_ne (fun e => hne (by rw [e]))], fun k hk => by cases hk; exact ⟨hB, hAm⟩, fun _ h => h, fun _ _ h => h, fun b' hb' => hA b' (by simpa [setBlock] using hb')⟩

theorem V_insertE {κ : Type} [Mk κ] {k : κ} {v : Value} (hH : Hp B A w L) (hi : L[i]? = some (obO mb (.map es clk))) (hes : ∀ e ∈ es.toList, ∃ q : κ, e.key = Mk.enc q ∧ q ≠ k) (ht : P.underlying t = some (.map kt et)) (hk : P.underlying kt = some (Mk.dsc κ))
    (hx : ev E x = some (.map (some mb))) (hy : ev E y = some (Mk.enc k)) (hz : ev E z = some v) (hB : B ≤ w.heap.size) (hA : ∀ b, w.heap.size ≤ b → A b)
    (h : ∀ w1, Hp B A w1 (L.set i (obO mb (.map (es.push { key := Mk.enc k, val := v, born := clk }) (clk + 1)))) → Tr Dw B A w A w1 → V P n ops Q rest E w1) :
    V P n ops Q (⟨none, .insert t x y z, ty, pos, af, none⟩ :: rest) E w := by
  obtain ⟨f, ⟨rfl, q1⟩, hb, hset⟩ := hH.at hi
  have hks : ∀ e ∈ es.toList, MapKept.IsKey (Mk.dsc κ) e.key := fun e he => by
    obtain ⟨p, hp, _⟩ := hes e he
    rw [hp]
    exact Mk.isK _
  have hkk : MapKept.IsKey (Mk.dsc κ) (Mk.enc k) := Mk.isK _
  have hlt : mb < w.heap.size := (Array.getElem?_eq_some_iff.1 q1).1
  have hmv : ∀ o, Mv Dw B A w A (setBlock w mb o) (some mb) := fun o => mv_set o hlt (hb mb (by simp)).1 (hb mb (by simp)).2.2 hA
  rcases MapKept.findNow_spec hkk es.toList 0 hks with ⟨r1, r2⟩ | ⟨j, e, r1, r2, r3⟩
  · refine V_s (w' := setBlock w mb (.map (es.push { key := Mk.enc k, val := v, born := clk }) (clk + 1))) (fun a hA' => ?_) rfl rfl (h _ (hset A _ (some mb) _ [mb] (hmv _) (fun k hk => by cases hk; simp) ⟨rfl, (MapKept.heap_set q1).1⟩ fun b' hb' => ⟨.inl hb', (hb b' hb').1, (hb b' hb').2.2⟩) ((hmv _).tr hB))
    simp only [execOp, hA'.eval hx, hA'.eval hy, hA'.eval hz, Instr.mapUpdate]
    simp [run_underlying ht, MapKept.run_getObj_map q1, MapKept.run_checkKey hk hkk, MapKept.run_findKey hk r1, MapKept.run_setObj_map _ q1, Result.andThen, setBlock]
  · obtain ⟨q, p1, p2⟩ := hes e (List.mem_of_getElem? r2)
    rw [p1] at r3
    exact absurd (Mk.inj _ _ r3) p2

theorem V_rangeE (hH : Hp B A w L) (hi : L[i]? = some (obO mb (.map es clk))) (ht : P.underlying t = some (.map kt et)) (hx : ev E x = some (.map (some mb))) (hB : B ≤ w.heap.size) (hA : ∀ b, w.heap.size ≤ b → A b) (hn : Nat.blt d n.sz = true)
    (h : ∀ rb w1 A1, Hp B A1 w1 (obO rb (.mapIter (some mb) clk #[] clk) :: L) → Tr Dw B A w A1 w1 → V P n ops Q rest ((d, .pointer (some ⟨rb, 0, none⟩)) :: E) w1) :
    V P n ops Q (⟨some d, .range t x, ty, pos, af, none⟩ :: rest) E w := by
  obtain ⟨f, ⟨rfl, q1⟩, hb, hset⟩ := hH.at hi
  exact V_y (w' := w.alloc (.mapIter (some mb) clk #[] clk)) (v := .pointer (some ⟨w.heap.size, 0, none⟩)) (fun a hA' => by simp only [execOp, hA'.eval hx]; simp [run_range_map w t kt et mb es clk ht q1]) rfl rfl hn
    (h _ _ _ (hH.alloc _ hB hA) ((mv_alloc B _ hA).tr hB))

theorem V_nextE (hH : Hp B A w L) (hi : L[i]? = some (obO mb (.map es clk))) (hj : L[j]? = some (obO rb (.mapIter (some mb) since seen c0))) (hx : ev E x = some (.pointer (some ⟨rb, 0, none⟩)))
    (hold : ∀ e ∈ es.toList, e.born < since) (hsc : since ≤ c0) (hB : B ≤ w.heap.size) (hA : ∀ b, w.heap.size ≤ b → A b) (hn : Nat.blt d n.sz = true)
    (h0 : (leftOf es seen).size = 0 → V P n ops Q rest ((d, .tuple #[.bool false]) :: E) w)
    (h1 : ∀ e w1, e ∈ (leftOf es seen).toList → Hp B A w1 (L.set j (obO rb (.mapIter (some mb) since (seen.push e.born) clk))) → Tr Dw B A w A w1 → V P n ops Q rest ((d, .tuple #[.bool true, e.key, e.val]) :: E) w1) :
    V P n ops Q (⟨some d, .next x false, ty, pos, af, none⟩ :: rest) E w := by
  obtain ⟨_, ⟨rfl, q1⟩, _, _⟩ := hH.at hi
  obtain ⟨f, ⟨rfl, q2⟩, hb, hset⟩ := hH.at hj
  rcases run_next_at (P := P) w ty rb mb since c0 seen es clk q2 q1 hold hsc with ⟨r1, r2⟩ | ⟨e, he, w1, hw, r2⟩
  · exact V_y (w' := w) (v := .tuple #[.bool false]) (fun a hA' => by simp only [execOp, hA'.eval hx]; simp [r2]) rfl rfl hn (h0 r1)
  · have hlt : rb < w.heap.size := (Array.getElem?_eq_some_iff.1 q2).1
    have hw0 : Mv Dw B A w A (setBlock w1 rb (.mapIter (some mb) since (seen.push e.born) clk)) (some rb) := by
      rcases hw with rfl | rfl
      · exact mv_set _ hlt (hb rb (by simp)).1 (hb rb (by simp)).2.2 hA
      · exact ⟨rfl, rfl, rfl, by show w.heap.size ≤ (w.heap.setIfInBounds rb _).size; simp, fun _ => Nat.le_succ _, fun k hk hne => by
          show (w.heap.setIfInBounds rb _)[k]? = w.heap[k]?
          rw [Array.getElem?_setIfInBounds_ne (fun e => hne (by rw [e]))], fun k hk => by cases hk; exact ⟨(hb rb (by simp)).1, (hb rb (by simp)).2.2⟩, fun _ h => h, fun _ _ h => h, fun b' hb' => hA b' (by have h2 : (w.heap.setIfInBounds rb (.mapIter (some mb) since (seen.push e.born) clk)).size ≤ b' := hb'; simpa using h2)⟩
    have hq : (setBlock w1 rb (.mapIter (some mb) since (seen.push e.born) clk)).heap[rb]? = some (.mapIter (some mb) since (seen.push e.born) clk) := by
      rcases hw with rfl | rfl
      · show (w1.heap.setIfInBounds rb _)[rb]? = _
        simp [hlt]
      · show (w.heap.setIfInBounds rb _)[rb]? = _
        simp [hlt]
    exact V_y (w' := setBlock w1 rb (.mapIter (some mb) since (seen.push e.born) clk)) (v := .tuple #[.bool true, e.key, e.val]) (fun a hA' => by simp only [execOp, hA'.eval hx]; simp [r2]) rfl rfl hn
      (h1 e _ he (hset A _ (some rb) _ [rb] hw0 (fun k hk => by cases hk; simp) ⟨rfl, hq⟩ fun b' hb' => ⟨.inl hb', (hb b' hb').1, (hb b' hb').2.2⟩) (hw0.tr hB))

theorem Y_entryE {e : MapEntry} (hH : Hp B A w L) (hi : L[i]? = some (obO mb (.map es clk))) (hj : L[j]? = some (obO rb (.mapIter (some mb) since (seen.push e.born) clk))) (hx : ev E x = some (.pointer (some ⟨rb, 0, none⟩)))
    (he : e ∈ es.toList) (hnd : (es.toList.map (·.born)).Nodup) : Y P n E ⟨some d, .entry x, ty, pos, af, none⟩ w (.tuple #[e.key, e.val]) w := by
  obtain ⟨_, ⟨rfl, q1⟩, _, _⟩ := hH.at hi
  obtain ⟨f, ⟨rfl, q2⟩, hb, hset⟩ := hH.at hj
  intro a hA'
  simp only [execOp, hA'.eval hx]
  simp [run_entry_at w rb mb since seen es clk e q2 q1 he hnd]
end steps
end Go.Gw
