import Derived.Test.YtiblagcmjobknaaGreatDoorGs
import Derived.ProofKit
import Derived.OpenShut
import Derived.Carry
import Derived.ChangeArms
import Derived.Deep.Slices
namespace Go.Gw
open Go Go.RowKit Go.Pu Go.ChangeShapes Go.WideShapes
set_option linter.unusedSimpArgs false
set_option linter.unusedVariables false
def Opn (P : Program) (t : TypeId) (α : Type) [GoT α] : Prop :=
 ∀ (H : Type) (enc : TypeId × Value → H) (w : World) (fuel : Nat) (cs : List Value) (x : DataW H × List MemPlace), DataW.trod enc P w 0 (fun _ => true) true fuel t cs = some x → ∃ y : α, GoT.rep (fun _ => True) w cs y ∧ GoT.wf y
section
variable {P : Program} {t e : TypeId}
theorem zls (ht : P.underlying t = some (.int .i64)) : Opn P t Int := by
 intro H enc w fuel cs x h
 obtain ⟨n, rfl, _, hwf⟩ := DataW.trod_int ht h
 refine ⟨n, rfl, ?_⟩
 have : (-9223372036854775808 ≤ n ∧ n ≤ 9223372036854775807) := by simpa [Lit.wf, IntKind.min, IntKind.max, IntKind.signed, IntKind.bits] using hwf
 exact this
theorem zkN (ht : P.underlying t = some .bool) : Opn P t Bool := by
 intro H enc w fuel cs x h
 obtain ⟨n, rfl, _⟩ := DataW.trod_bool ht h
 exact ⟨n, rfl, trivial⟩
theorem zlx (ht : P.underlying t = some .string) : Opn P t ByteArray := by
 intro H enc w fuel cs x h
 obtain ⟨s, rfl, _, hs⟩ := DataW.trod_string ht h
 exact ⟨s, rfl, hs⟩
theorem At.of_cells {w : World} {b off n : Nat} {cs : List Value} (h : w.cells? 0 (⟨b, off, none⟩ : Addr) n = some cs) : At w b off cs := by
 obtain ⟨_, hl, hc⟩ := World.cells?_some h
 intro j u hj
 have hj' : j < n := by rw [← hl]; exact (List.getElem?_eq_some_iff.1 hj).1
 have hadd : (⟨b, off, none⟩ : Addr).add j = ⟨b, off + j, none⟩ := by unfold Addr.add; split <;> simp_all
 rw [← hadd, hc j hj', hj]
theorem Jd {α : Type} [GoT α] (ht : P.underlying t = some (.slice e)) (he : Opn P e α) (hc : P.cellsOf e = GoT.cells α) (h0 : GoT.cells α ≠ 0) : Opn P t (List α) := by
 intro H enc w fuel cs x h
 rcases Go.Deep.open_slice ht h with ⟨rfl, _⟩ | ⟨a, len, cap, m, n, D, Pl, rfl, _, hl, hm, hmm, _, hx⟩
 ·exact ⟨[], ⟨_, rfl, Sl.nil⟩, by simp, by simp⟩
 have hmc : m = cap := by simpa using hmm
 subst hmc
 by_cases hlen : len = 0
 ·subst hlen
  exact ⟨[], ⟨_, rfl, .inl ⟨some a, m, rfl, rfl, hm, fun h => by cases h⟩⟩, Nat.zero_le _, fun x hx => by cases hx⟩
 obtain ⟨cs0, hcs0, _⟩ := hx 0 (by omega)
 obtain ⟨_, hl0, hc0⟩ := World.cells?_some hcs0
 have hcell := hc0 0 (by rw [hc]; omega)
 have hne : cs0[0]? ≠ none := by rw [Ne, List.getElem?_eq_none_iff]; rw [hl0, hc]; omega
 obtain ⟨u, hu⟩ := Option.ne_none_iff_exists'.1 hne
 rw [hu] at hcell
 have hcell' : w.cell? a = some u := by simpa [Addr.add] using hcell
 have hblt := World.block_lt_of_cell? w a hcell'
 have hspot : a.spot = none := by
  unfold World.cell? at hcell'
  split at hcell'
  ·cases hs : a.spot with
   | none => rfl
   | some _ => simp [hs] at hcell'
  ·cases hcell'
 obtain ⟨b, off, sp⟩ := a
 simp only at hspot hblt
 subst hspot
 have hadd : ∀ j, (⟨b, off, none⟩ : Addr).add j = ⟨b, off + j, none⟩ := fun j => zdH b off j
 have key : ∀ k, k ≤ len → ∃ (l : List α) (c : List Value), l.length = k ∧ repL (fun _ => True) w c l ∧ At w b off c ∧ ∀ x ∈ l, GoT.wf x := by
  intro k
  induction k with
  | zero => intro _; exact ⟨[], [], rfl, rfl, fun j u hj => by simp at hj, by simp⟩
  | succ k ih =>
   intro hk
   obtain ⟨l, c, h1, h2, h3, h4⟩ := ih (by omega)
   obtain ⟨c2, hc2, ht2⟩ := hx k (by omega)
   obtain ⟨y, hy, hwy⟩ := he H enc w n c2 _ ht2
   refine ⟨l ++ [y], c ++ c2, by simp [h1], h2.append (repL.single hy), ?_, ?_⟩
   ·intro j u hj
    rcases Nat.lt_or_ge j c.length with hlt | hge
    ·rw [List.getElem?_append_left hlt] at hj
     exact h3 j u hj
    ·rw [List.getElem?_append_right hge] at hj
     have hat := At.of_cells (w := w) (b := b) (off := off + k * P.cellsOf e) (by rw [← hadd]; exact hc2)
     have := hat (j - c.length) u hj
     rw [h2.len, h1, ← hc] at hge this
     rw [show off + j = off + k * P.cellsOf e + (j - k * P.cellsOf e) by omega]
     exact this
   ·intro z hz
    rcases List.mem_append.1 hz with hz | hz
    ·exact h4 z hz
    ·rw [List.mem_singleton.1 hz]; exact hwy
 obtain ⟨l, c, h1, h2, h3, h4⟩ := key len (Nat.le_refl _)
 subst h1
 exact ⟨l, ⟨_, rfl, .inr ⟨b, off, m, c, rfl, trivial, hblt, hl, hm, h2, h3⟩⟩, by omega, h4⟩
def OpnL (P : Program) (fs : List Field) (off : Nat) (β : Type) [GoT β] : Prop :=
 ∀ (H : Type) (enc : TypeId × Value → H) (w : World) (fuel : Nat) (cs : List Value), cs.length = off + GoT.cells β →
  (∀ f ∈ fs, ∃ x, DataW.trod enc P w 0 (fun _ => true) true fuel f.type ((cs.drop f.offset).take (P.cellsOf f.type)) = some x) → ∃ y : β, GoT.rep (fun _ => True) w (cs.drop off) y ∧ GoT.wf y
theorem JH {f : Field} {off : Nat} {β : Type} [GoT β] (ho : f.offset = off) (hc : P.cellsOf f.type = GoT.cells β) (hf : Opn P f.type β) : OpnL P [f] off β := by
 intro H enc w fuel cs hl h
 obtain ⟨x, hx⟩ := h f (by simp)
 subst ho
 rw [List.take_of_length_le (by rw [List.length_drop]; omega)] at hx
 exact hf H enc w fuel _ x hx
theorem qa {f : Field} {fs : List Field} {off : Nat} {α β : Type} [GoT α] [GoT β] (ho : f.offset = off) (hc : P.cellsOf f.type = GoT.cells α) (hf : Opn P f.type α) (hr : OpnL P fs (off + GoT.cells α) β) : OpnL P (f :: fs) off (α × β) := by
 intro H enc w fuel cs hl h
 obtain ⟨x, hx⟩ := h f (by simp)
 obtain ⟨y, hy, hwy⟩ := hf H enc w fuel _ x hx
 have hl' : cs.length = off + (GoT.cells α + GoT.cells β) := hl
 obtain ⟨z, hz, hwz⟩ := hr H enc w fuel cs (by omega) (fun g hg => h g (by simp [hg]))
 subst ho
 refine ⟨(y, z), ⟨_, _, ?_, hy, hz⟩, hwy, hwz⟩
 rw [hc]
 conv => lhs; rw [← List.take_append_drop (GoT.cells α) (cs.drop f.offset)]
 rw [List.drop_drop]
theorem jy {fs : Array Field} {α β : Type} [GoT β] (g : α → β) (gi : β → α) (hgi : ∀ y, g (gi y) = y) (ht : P.underlying t = some (.struct fs)) (hc : P.cellsOf t = GoT.cells β) (h : OpnL P fs.toList 0 β) : @Opn P t α (GoT.of g) := by
 intro H enc w fuel cs x hx
 obtain ⟨xs, n, rfl, _, hl, hxs, hf⟩ := DataW.trod_struct ht hx
 obtain ⟨y, hy, hwy⟩ := h H enc w n cs (by rw [hl, hc, Nat.zero_add]) (fun f hfm => by
  obtain ⟨i, hi⟩ := List.mem_iff_getElem?.1 hfm
  rw [Array.getElem?_toList] at hi
  have h1 := hf i f hi
  have hlt : i < xs.length := by rw [hxs]; exact (Array.getElem?_eq_some_iff.1 hi).1
  exact ⟨xs[i], by rw [h1]; simp [hlt]⟩)
 refine ⟨gi y, ?_, ?_⟩
 ·show GoT.rep (fun _ => True) w cs (g (gi y))
  rw [hgi]; exact hy
 ·show GoT.wf (g (gi y))
  rw [hgi]; exact hwy
theorem ziy {w : World} {r : Reach} {base : Nat} {v : Value} {d : TypeDesc} (hu : P.underlying t = some d) (hd : match d with | .int _ | .bool | .string | .slice _ => True | _ => False) (h : Value.okWide P w r base t v) : v.cells = #[v] := by
 cases v <;> try rfl
 all_goals (cases d <;> first | exact hd.elim | (simp [Value.okWide, Cell.okWide, Cell.ok, hu] at h))
theorem zbo {α : Type} [GoT α] {w : World} {r : Reach} {base : Nat} {v : Value} {H : Type} {enc : TypeId × Value → H} {d : DataW H} {p : List MemPlace} (ho : Opn P t (List α)) (hu : P.underlying t = some (.slice e)) (h : Value.okWide P w r base t v)
  (hr : DataW.Trod enc P w 0 (fun _ => true) true t v d p) : ∃ l : List α, Sl (fun _ => True) w v l ∧ GoT.wf l := by
 obtain ⟨fuel, hf⟩ := hr
 rw [ziy hu trivial h] at hf
 obtain ⟨x, ⟨u, hu1, hu2⟩, hw⟩ := ho _ _ _ _ _ _ hf
 have : v = u := by simpa using hu1
 subst this
 exact ⟨x, hu2, hw⟩
end
theorem zgW {H : Type} {enc : TypeId × Value → H} {P : Program} (hl : laidOutB P = true) {W W' : World} (hb : Below W.heap.size W W') : ∀ (ts : List TypeId) (vs : List Value) (ds : List (DataW H)) (ps : List MemPlace),
  (ts.all fun t => P.readableRec t && decide (t < P.types.size)) = true → (∀ x ∈ ps, x.block < W.heap.size) → DataW.TrodAll enc P W 0 (fun _ => true) true ts vs ds ps → DataW.TrodAll enc P W' 0 (fun b => decide (b < W.heap.size)) true ts vs ds ps := by
 intro ts
 induction ts with
 | nil =>
  intro vs ds ps _ _ h
  obtain ⟨rfl, rfl, rfl⟩ := trodAll_nil h
  exact trodAll_mk0
 | cons t ts ih =>
  intro vs ds ps ht hlt h
  obtain ⟨v, vs', d, ds', p, q, rfl, rfl, rfl, h1, h2⟩ := trodAll_cons h
  simp only [List.all_cons, Bool.and_eq_true] at ht
  exact trodAll_cons_mk (Below.trod hl ht.1.1 (of_decide_eq_true ht.1.2) h1 hb (fun x hx => hlt x (List.mem_append_left _ hx))) (ih _ _ _ ht.2 (fun x hx => hlt x (List.mem_append_right _ hx)) h2)
theorem zkD {H : Type} {enc : TypeId × Value → H} {P : Program} {f : Func} {s : ChangeSpec} {W W' : World} {args : Array Value} {ds : List (DataW H)} {p : List MemPlace} {rt : TypeId}
  (hs : s.vars = []) (hr : (s.fn H (ds ++ [])).results = [.lit (.bool true)]) (ha : (s.fn H (ds ++ [])).args = ds) (hv : (s.fn H (ds ++ [])).vars = []) (hrt : f.resultTypes = #[rt]) (hub : P.underlying rt = some .bool)
  (hl : laidOutB P = true) (hts : (f.params.toList.all fun t => P.readableRec t && decide (t < P.types.size)) = true)
  (hW : DataW.Whole enc P f.params.toList s.vars false W args.toList ds [] p) (hb : Below W.heap.size W W') : s.post enc P f false true false false W args (.bool true) W' := by
 have hW' := hW
 obtain ⟨p1, q1, hA, hV, rfl, hfz, hnd⟩ := hW
 rw [hs] at hV
 have hq : q1 = [] := by simpa [DataW.TrodVars] using hV
 subst hq
 refine ⟨ds, [], p1 ++ [], [], p1, [], hW', ?_, ?_, ?_, hb.frame _, fun h => by cases h⟩
 ·rw [hr, hrt]
  exact trodAll_cons_mk (shut_bool hub true) trodAll_mk0
 ·rw [ha]
  refine zgW hl hb _ _ _ _ hts (fun x hx => ?_) hA
  simpa using hW'.lt x (by simpa using hx)
 ·rw [hs, hv]
  rfl
end Go.Gw
