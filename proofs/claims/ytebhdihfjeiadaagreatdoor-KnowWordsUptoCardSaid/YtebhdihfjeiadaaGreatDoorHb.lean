/-
  What is read weighs at least as much as what it is read as.
-/
import Derived.Test.YtebhdihfjeiadaaGreatDoorGf
namespace Go.Gw
open Go Go.RowKit Go.Pu Go.ChangeShapes Go.WideShapes
set_option linter.unusedSimpArgs false
set_option linter.unusedVariables false

/-- how many values and letters -/
class GoB (α : Type) where
  bulk : α → Nat
instance : GoB Int := ⟨fun _ => 1⟩
instance : GoB Bool := ⟨fun _ => 1⟩
instance : GoB ByteArray := ⟨fun s => s.size + 1⟩
instance {α : Type} [GoB α] : GoB (List α) := ⟨fun l => (l.map GoB.bulk).sum + 1⟩
instance {α β : Type} [GoB α] [GoB β] : GoB (α × β) := ⟨fun p => GoB.bulk p.1 + GoB.bulk p.2⟩
@[reducible] def GoB.of {α β : Type} [GoB β] (g : α → β) : GoB α := ⟨fun x => GoB.bulk (g x)⟩

structure IsBulk {H : Type} (U : DataW H → Nat) : Prop where
  one : ∀ d, 1 ≤ U d
  str : ∀ b : List UInt8, b.length + 1 ≤ U (.lit (.string b))
  slice : ∀ es sp, (es.map U).sum + 1 ≤ U (.slice es sp)
  agg : ∀ ps, (ps.map U).sum ≤ U (.agg ps)

def OpnB (P : Program) (t : TypeId) (α : Type) [GoT α] [GoB α] : Prop :=
  ∀ (H : Type) (U : DataW H → Nat) (hU : IsBulk U) (enc : TypeId × Value → H) (w : World) (fuel : Nat) (cs : List Value) (x : DataW H × List MemPlace), DataW.trod enc P w 0 (fun _ => true) true fuel t cs = some x → ∃ y : α, GoT.rep (fun _ => True) w cs y ∧ GoT.wf y ∧ GoB.bulk y ≤ U x.1

section
variable {P : Program} {t e : TypeId}
theorem OpnB_int (ht : P.underlying t = some (.int .i64)) : OpnB P t Int := by
  intro H U hU enc w fuel cs x h
  obtain ⟨y, h1, h2⟩ := Opn_int ht H enc w fuel cs x h
  exact ⟨y, h1, h2, hU.one _⟩
theorem OpnB_bool (ht : P.underlying t = some .bool) : OpnB P t Bool := by
  intro H U hU enc w fuel cs x h
  obtain ⟨y, h1, h2⟩ := Opn_bool ht H enc w fuel cs x h
  exact ⟨y, h1, h2, hU.one _⟩
theorem OpnB_str (ht : P.underlying t = some .string) : OpnB P t ByteArray := by
  intro H U hU enc w fuel cs x h
  obtain ⟨s, rfl, rfl, hs⟩ := DataW.trod_string ht h
  exact ⟨s, rfl, hs, hU.str _⟩
theorem OpnB_slice {α : Type} [GoT α] [GoB α] (ht : P.underlying t = some (.slice e)) (he : OpnB P e α) (hc : P.cellsOf e = GoT.cells α) (h0 : GoT.cells α ≠ 0) : OpnB P t (List α) := by
  intro H U hU enc w fuel cs x h
  rcases Go.Deep.open_slice ht h with ⟨rfl, rfl⟩ | ⟨a, len, cap, m, n, D, Pl, rfl, _, hl, hm, hmm, rfl, hx⟩
  · exact ⟨[], ⟨_, rfl, Sl.nil⟩, ⟨by simp, by simp⟩, hU.one _⟩
  have hmc : m = cap := by simpa using hmm
  subst hmc
  by_cases hlen : len = 0
  · subst hlen
    exact ⟨[], ⟨_, rfl, .inl ⟨some a, m, rfl, rfl, hm, fun h => by cases h⟩⟩, ⟨Nat.zero_le _, fun x hx => by cases hx⟩, hU.one _⟩
  obtain ⟨cs0, hcs0, _⟩ := hx 0 (by omega)
  obtain ⟨_, hl0, hc0⟩ := World.cells?_some hcs0
  have hcell := hc0 0 (by rw [hc]; omega)
  have hne : cs0[0]? ≠ none := by rw [Ne, List.getElem?_eq_none_iff]; rw [hl0, hc]; omega
  obtain ⟨u, hu⟩ := Option.ne_none_iff_exists'.1 hne
  rw [hu] at hcell
  have hcell' : w.cell? a = some u := by simpa [Addr.add] using hcell
  have hblt := World.block_lt_of_cell? w a hcell'
  have hspot : a.spot = none := by
    unfold World.cell? at hcell'
    split at hcell'
    · cases hs : a.spot with
      | none => rfl
      | some _ => simp [hs] at hcell'
    · cases hcell'
  obtain ⟨b, off, sp⟩ := a
  simp only at hspot hblt
  subst hspot
  have hadd : ∀ j, (⟨b, off, none⟩ : Addr).add j = ⟨b, off + j, none⟩ := fun j => addr_add b off j
  have key : ∀ k, k ≤ len → ∃ (l : List α) (c : List Value), l.length = k ∧ repL (fun _ => True) w c l ∧ At w b off c ∧ (∀ x ∈ l, GoT.wf x) ∧ (l.map GoB.bulk).sum ≤ (((List.range k).map D).map U).sum := by
    intro k
    induction k with
    | zero => intro _; exact ⟨[], [], rfl, rfl, fun j u hj => by simp at hj, by simp, by simp⟩
    | succ k ih =>
      intro hk
      obtain ⟨l, c, h1, h2, h3, h4, h5⟩ := ih (by omega)
      obtain ⟨c2, hc2, ht2⟩ := hx k (by omega)
      obtain ⟨y, hy, hwy, hby⟩ := he H U hU enc w n c2 _ ht2
      have hby' : GoB.bulk y ≤ U (D k) := hby
      refine ⟨l ++ [y], c ++ c2, by simp [h1], h2.append (repL.single hy), ?_, ?_, ?_⟩
      · intro j u hj
        rcases Nat.lt_or_ge j c.length with hlt | hge
        · rw [List.getElem?_append_left hlt] at hj
          exact h3 j u hj
        · rw [List.getElem?_append_right hge] at hj
          have hat := At.of_cells (w := w) (b := b) (off := off + k * P.cellsOf e) (by rw [← hadd]; exact hc2)
          have := hat (j - c.length) u hj
          rw [h2.len, h1, ← hc] at hge this
          rw [show off + j = off + k * P.cellsOf e + (j - k * P.cellsOf e) by omega]
          exact this
      · intro z hz
        rcases List.mem_append.1 hz with hz | hz
        · exact h4 z hz
        · rw [List.mem_singleton.1 hz]; exact hwy
      · rw [List.map_append, List.sum_append, List.range_succ, List.map_append, List.map_append, List.sum_append]
        simp only [List.map_cons, List.map_nil, List.sum_cons, List.sum_nil]
        omega
  obtain ⟨l, c, h1, h2, h3, h4, h5⟩ := key len (Nat.le_refl _)
  subst h1
  exact ⟨l, ⟨_, rfl, .inr ⟨b, off, m, c, rfl, trivial, hblt, hl, hm, h2, h3⟩⟩, ⟨by omega, h4⟩, Nat.le_trans (Nat.succ_le_succ h5) (hU.slice _ _)⟩

/-- the fields of a struct from a place on, and what they weigh -/
def OpnLB (P : Program) (fs : List Field) (off : Nat) (β : Type) [GoT β] [GoB β] : Prop :=
  ∀ (H : Type) (U : DataW H → Nat) (hU : IsBulk U) (enc : TypeId × Value → H) (w : World) (fuel : Nat) (cs : List Value) (xs : List (DataW H × List MemPlace)), cs.length = off + GoT.cells β → xs.length = fs.length →
    (∀ (i : Nat) (f : Field), fs[i]? = some f → DataW.trod enc P w 0 (fun _ => true) true fuel f.type ((cs.drop f.offset).take (P.cellsOf f.type)) = xs[i]?) → ∃ y : β, GoT.rep (fun _ => True) w (cs.drop off) y ∧ GoT.wf y ∧ GoB.bulk y ≤ ((xs.map (·.1)).map U).sum
theorem OpnLB_one {f : Field} {off : Nat} {β : Type} [GoT β] [GoB β] (ho : f.offset = off) (hc : P.cellsOf f.type = GoT.cells β) (hf : OpnB P f.type β) : OpnLB P [f] off β := by
  intro H U hU enc w fuel cs xs hl hlx h
  match xs, hlx with
  | [x], _ =>
    have hx := h 0 f rfl
    subst ho
    rw [List.take_of_length_le (by rw [List.length_drop]; omega)] at hx
    obtain ⟨y, h1, h2, h3⟩ := hf H U hU enc w fuel _ x hx
    exact ⟨y, h1, h2, by simpa using h3⟩
theorem OpnLB_cons {f : Field} {fs : List Field} {off : Nat} {α β : Type} [GoT α] [GoT β] [GoB α] [GoB β] (ho : f.offset = off) (hc : P.cellsOf f.type = GoT.cells α) (hf : OpnB P f.type α) (hr : OpnLB P fs (off + GoT.cells α) β) : OpnLB P (f :: fs) off (α × β) := by
  intro H U hU enc w fuel cs xs hl hlx h
  match xs, hlx with
  | x :: xs, hlx =>
    have hx := h 0 f rfl
    obtain ⟨y, hy, hwy, hby⟩ := hf H U hU enc w fuel _ x hx
    have hl' : cs.length = off + (GoT.cells α + GoT.cells β) := hl
    obtain ⟨z, hz, hwz, hbz⟩ := hr H U hU enc w fuel cs xs (by omega) (by simpa using hlx) (fun i g hg => h (i + 1) g (by simpa using hg))
    subst ho
    refine ⟨(y, z), ⟨_, _, ?_, hy, hz⟩, ⟨hwy, hwz⟩, ?_⟩
    · rw [hc]
      conv => lhs; rw [← List.take_append_drop (GoT.cells α) (cs.drop f.offset)]
      rw [List.drop_drop]
    · show GoB.bulk y + GoB.bulk z ≤ _
      simp only [List.map_cons, List.sum_cons]
      omega
theorem OpnB_struct {fs : Array Field} {α β : Type} [GoT β] [GoB β] (g : α → β) (gi : β → α) (hgi : ∀ y, g (gi y) = y) (ht : P.underlying t = some (.struct fs)) (hc : P.cellsOf t = GoT.cells β) (h : OpnLB P fs.toList 0 β) : @OpnB P t α (GoT.of g) (GoB.of g) := by
  intro H U hU enc w fuel cs x hx
  obtain ⟨xs, n, rfl, rfl, hl, hxs, hf⟩ := DataW.trod_struct ht hx
  obtain ⟨y, hy, hwy, hby⟩ := h H U hU enc w n cs xs (by rw [hl, hc, Nat.zero_add]) (by simpa using hxs) (fun i f hfi => hf i f (by rw [← Array.getElem?_toList]; exact hfi))
  refine ⟨gi y, ?_, ?_, ?_⟩
  · show GoT.rep (fun _ => True) w cs (g (gi y))
    rw [hgi]; exact hy
  · show GoT.wf (g (gi y))
    rw [hgi]; exact hwy
  · show GoB.bulk (g (gi y)) ≤ _
    rw [hgi]
    exact Nat.le_trans hby (hU.agg _)

variable {H : Type} {U : DataW H → Nat} {enc : TypeId × Value → H}
theorem argB_int {w : World} {r : Reach} {base : Nat} {v : Value} {d : DataW H} {p : List MemPlace} (hU : IsBulk U) (hu : P.underlying t = some (.int .i64)) (h : Value.okWide P w r base t v)
    (hr : DataW.Trod enc P w 0 (fun _ => true) true t v d p) : ∃ x : Int, v = .int .i64 x ∧ GoT.wf x ∧ GoB.bulk x ≤ U d := by
  obtain ⟨x, h1, h2⟩ := arg_int hu h hr
  exact ⟨x, h1, h2, hU.one _⟩
theorem argB_str {w : World} {r : Reach} {base : Nat} {v : Value} {d : DataW H} {p : List MemPlace} (hU : IsBulk U) (hu : P.underlying t = some .string) (h : Value.okWide P w r base t v)
    (hr : DataW.Trod enc P w 0 (fun _ => true) true t v d p) : ∃ x : ByteArray, v = .string x ∧ GoT.wf x ∧ GoB.bulk x ≤ U d := by
  obtain ⟨fuel, hf⟩ := hr
  rw [cells_of_ok hu trivial h] at hf
  obtain ⟨x, hx, hw, hb⟩ := OpnB_str hu _ U hU _ _ _ _ _ hf
  exact ⟨x, List.singleton_inj.1 hx, hw, hb⟩
theorem argB_slice {α : Type} [GoT α] [GoB α] {w : World} {r : Reach} {base : Nat} {v : Value} {d : DataW H} {p : List MemPlace} (hU : IsBulk U) (ho : OpnB P t (List α)) (hu : P.underlying t = some (.slice e)) (h : Value.okWide P w r base t v)
    (hr : DataW.Trod enc P w 0 (fun _ => true) true t v d p) : ∃ l : List α, Sl (fun _ => True) w v l ∧ GoT.wf l ∧ GoB.bulk l ≤ U d := by
  obtain ⟨fuel, hf⟩ := hr
  rw [cells_of_ok hu trivial h] at hf
  obtain ⟨x, ⟨u, hu1, hu2⟩, hw, hb⟩ := ho _ U hU _ _ _ _ _ hf
  have : v = u := by simpa using hu1
  subst this
  exact ⟨x, hu2, hw, hb⟩
theorem argB_struct {α : Type} [GoT α] [GoB α] {w : World} {r : Reach} {base : Nat} {v : Value} {d : DataW H} {p : List MemPlace} {fs : Array Field} (hU : IsBulk U) (ho : OpnB P t α) (hu : P.underlying t = some (.struct fs)) (h : Value.okWide P w r base t v)
    (hr : DataW.Trod enc P w 0 (fun _ => true) true t v d p) : ∃ (x : α) (cs : List Value), v = .agg cs.toArray ∧ GoT.rep (fun _ => True) w cs x ∧ GoT.wf x ∧ GoB.bulk x ≤ U d := by
  obtain ⟨cs, rfl⟩ := agg_of_ok hu h
  obtain ⟨fuel, hf⟩ := hr
  obtain ⟨x, hx, hw, hb⟩ := ho _ U hU _ _ _ _ _ hf
  exact ⟨x, cs.toList, by simp, hx, hw, hb⟩
end
end Go.Gw
