import Derived.Test.YtldkdabcdbgpbaaGreatDoorGs
import Derived.ProofKit
import Derived.OpenShut
import Derived.Carry
import Derived.ChangeArms
import Derived.Deep.Slices
namespace Go.Gw
open Go Go.RowKit Go.Pu Go.ChangeShapes Go.WideShapes
set_option linter.unusedSimpArgs false
set_option linter.unusedVariables false
def Opn (P : Program) (t : TypeId) (α : Type) [GoT α] : Prop :=
 ∀ (H : Type) (enc : TypeId × Value → H) (w : World) (fuel : Nat) (cs : List Value) (x : DataW H × List MemPlace), DataW.trod enc P w 0 (fun _ => true) true fuel t cs = some x → ∃ y : α, GoT.rep (fun _ => True) w cs y ∧ GoT.wf y
section
variable {P : Program} {t e : TypeId}
theorem Opn_int (ht : P.underlying t = some (.int .i64)) : Opn P t Int := by
 intro H enc w fuel cs x h
 obtain ⟨n, rfl, _, hwf⟩ := DataW.trod_int ht h
 refine ⟨n, rfl, ?_⟩
 have : (-9223372036854775808 ≤ n ∧ n ≤ 9223372036854775807) := by simpa [Lit.wf, IntKind.min, IntKind.max, IntKind.signed, IntKind.bits] using hwf
 exact this
theorem At.of_cells {w : World} {b off n : Nat} {cs : List Value} (h : w.cells? 0 (⟨b, off, none⟩ : Addr) n = some cs) : At w b off cs := by
 obtain ⟨_, hl, hc⟩ := World.cells?_some h
 intro j u hj
 have hj' : j < n := by rw [← hl]; exact (List.getElem?_eq_some_iff.1 hj).1
 have hadd : (⟨b, off, none⟩ : Addr).add j = ⟨b, off + j, none⟩ := by unfold Addr.add; split <;> simp_all
 rw [← hadd, hc j hj', hj]
def OpnL (P : Program) (fs : List Field) (off : Nat) (β : Type) [GoT β] : Prop :=
 ∀ (H : Type) (enc : TypeId × Value → H) (w : World) (fuel : Nat) (cs : List Value), cs.length = off + GoT.cells β →
  (∀ f ∈ fs, ∃ x, DataW.trod enc P w 0 (fun _ => true) true fuel f.type ((cs.drop f.offset).take (P.cellsOf f.type)) = some x) → ∃ y : β, GoT.rep (fun _ => True) w (cs.drop off) y ∧ GoT.wf y
theorem cells_of_ok {w : World} {r : Reach} {base : Nat} {v : Value} {d : TypeDesc} (hu : P.underlying t = some d) (hd : match d with | .int _ | .bool | .string | .slice _ => True | _ => False) (h : Value.okWide P w r base t v) : v.cells = #[v] := by
 cases v <;> try rfl
 all_goals (cases d <;> first | exact hd.elim | (simp [Value.okWide, Cell.okWide, Cell.ok, hu] at h))
theorem agg_of_ok {w : World} {r : Reach} {base : Nat} {v : Value} {fs : Array Field} (hu : P.underlying t = some (.struct fs)) (h : Value.okWide P w r base t v) : ∃ cs, v = .agg cs := by
 simp only [Value.okWide, hu] at h
 obtain ⟨cs, rfl, _⟩ := h
 exact ⟨cs, rfl⟩
theorem arg_int {w : World} {r : Reach} {base : Nat} {v : Value} {H : Type} {enc : TypeId × Value → H} {d : DataW H} {p : List MemPlace} (hu : P.underlying t = some (.int .i64)) (h : Value.okWide P w r base t v)
  (hr : DataW.Trod enc P w 0 (fun _ => true) true t v d p) : ∃ x : Int, v = .int .i64 x ∧ GoT.wf x := by
 obtain ⟨fuel, hf⟩ := hr
 rw [cells_of_ok hu trivial h] at hf
 obtain ⟨x, hx, hw⟩ := Opn_int hu _ _ _ _ _ _ hf
 exact ⟨x, List.singleton_inj.1 hx, hw⟩
end
theorem trodAll_below {H : Type} {enc : TypeId × Value → H} {P : Program} (hl : laidOutB P = true) {W W' : World} (hb : Below W.heap.size W W') : ∀ (ts : List TypeId) (vs : List Value) (ds : List (DataW H)) (ps : List MemPlace),
  (ts.all fun t => P.readableRec t && decide (t < P.types.size)) = true → (∀ x ∈ ps, x.block < W.heap.size) → DataW.TrodAll enc P W 0 (fun _ => true) true ts vs ds ps → DataW.TrodAll enc P W' 0 (fun b => decide (b < W.heap.size)) true ts vs ds ps := by
 intro ts
 induction ts with
 | nil =>
  intro vs ds ps _ _ h
  obtain ⟨rfl, rfl, rfl⟩ := trodAll_nil h
  exact trodAll_mk0
 | cons t ts ih =>
  intro vs ds ps ht hlt h
  obtain ⟨v, vs', d, ds', p, q, rfl, rfl, rfl, h1, h2⟩ := trodAll_cons h
  simp only [List.all_cons, Bool.and_eq_true] at ht
  exact trodAll_cons_mk (Below.trod hl ht.1.1 (of_decide_eq_true ht.1.2) h1 hb (fun x hx => hlt x (List.mem_append_left _ hx))) (ih _ _ _ ht.2 (fun x hx => hlt x (List.mem_append_right _ hx)) h2)
theorem law_post {H : Type} {enc : TypeId × Value → H} {P : Program} {f : Func} {s : ChangeSpec} {W W' : World} {args : Array Value} {ds : List (DataW H)} {p : List MemPlace} {rt : TypeId}
  (hs : s.vars = []) (hr : (s.fn H (ds ++ [])).results = [.lit (.bool true)]) (ha : (s.fn H (ds ++ [])).args = ds) (hv : (s.fn H (ds ++ [])).vars = []) (hrt : f.resultTypes = #[rt]) (hub : P.underlying rt = some .bool)
  (hl : laidOutB P = true) (hts : (f.params.toList.all fun t => P.readableRec t && decide (t < P.types.size)) = true)
  (hW : DataW.Whole enc P f.params.toList s.vars false W args.toList ds [] p) (hb : Below W.heap.size W W') : s.post enc P f false true false false W args (.bool true) W' := by
 have hW' := hW
 obtain ⟨p1, q1, hA, hV, rfl, hfz, hnd⟩ := hW
 rw [hs] at hV
 have hq : q1 = [] := by simpa [DataW.TrodVars] using hV
 subst hq
 refine ⟨ds, [], p1 ++ [], [], p1, [], hW', ?_, ?_, ?_, hb.frame _, fun h => by cases h⟩
 ·rw [hr, hrt]
  exact trodAll_cons_mk (shut_bool hub true) trodAll_mk0
 ·rw [ha]
  refine trodAll_below hl hb _ _ _ _ hts (fun x hx => ?_) hA
  simpa using hW'.lt x (by simpa using hx)
 ·rw [hs, hv]
  rfl
end Go.Gw
