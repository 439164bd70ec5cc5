/-
  QueryWrites: for every input the law returns true, and the input reads as it did. No condition.
-/
import Derived.Test.YtgeagllbckdfhaaRows
import Derived.Test.YtgeagllbckdfhaaQueryWritesW0
import Derived.Test.YtgeagllbckdfhaaQueryWritesWrdLow
import Derived.Test.YtgeagllbckdfhaaQueryWritesWrdWords
import Derived.Test.YtgeagllbckdfhaaQueryWritesJoinBase
import Derived.Test.YtgeagllbckdfhaaQueryWritesQueryWrites
import Derived.Test.YtgeagllbckdfhaaGf
import Derived.Test.YtgeagllbckdfhaaHb
import Derived.Deep.DeepHandedRow
import Derived.LaidMore
import Derived.Lay
namespace Go.Proofs.Ytgeagllbckdfhaa.QueryWrites
open Go Go.ChangeShapes Go.WideShapes Go.ChangeAt Go.RowKit Go.Gw Go.Pu Go.Proofs.Ytgeagllbckdfhaa.M Go.Proofs.Ytgeagllbckdfhaa.W
set_option linter.unusedVariables false
set_option linter.unusedSimpArgs false

theorem own : ownKnob Try.prog.godebug = none := by kernel_rfl
theorem laidOut : laidOutB Try.prog = true := by kernel_rfl
theorem tys : (Try.f4.params.toList.all fun t => Try.prog.readableRec t && decide (t < Try.prog.types.size)) = true := by kernel_rfl
instance : GoB know_Part := GoB.of (β := Int × Bool × (List ByteArray)) fun x => (x.kind, x.not, x.words)
instance : GoB know_Query := GoB.of (β := (List know_Part)) fun x => (x.parts)
theorem cells24 : Try.prog.cellsOf 24 = 1 := by kernel_rfl
theorem cells22 : Try.prog.cellsOf 22 = 1 := by kernel_rfl
theorem cells38 : Try.prog.cellsOf 38 = 3 := by kernel_rfl
theorem cells36 : Try.prog.cellsOf 36 = 1 := by kernel_rfl
theorem cells9 : Try.prog.cellsOf 9 = 1 := by kernel_rfl
theorem cells4 : Try.prog.cellsOf 4 = 1 := by kernel_rfl
theorem cells3 : Try.prog.cellsOf 3 = 1 := by kernel_rfl
theorem o3 : OpnB Try.prog 3 Int := OpnB_int Try.underlying3
theorem o4 : OpnB Try.prog 4 Bool := OpnB_bool Try.underlying4
theorem o9 : OpnB Try.prog 9 ByteArray := OpnB_str Try.underlying9
theorem o36 : OpnB Try.prog 36 (List ByteArray) := OpnB_slice Try.underlying36 o9 cells9 (by decide)
theorem o38 : OpnB Try.prog 38 know_Part := OpnB_struct (β := Int × Bool × (List ByteArray)) (fun (x : know_Part) => (x.kind, x.not, x.words)) (fun y => (⟨y.1, y.2.1, y.2.2⟩ : know_Part)) (fun _ => rfl) Try.underlying38 cells38 (OpnLB_cons rfl cells3 o3 (OpnLB_cons rfl cells4 o4 (OpnLB_one rfl cells36 o36)))
theorem o22 : OpnB Try.prog 22 (List know_Part) := OpnB_slice Try.underlying22 o38 cells38 (by decide)
theorem o24 : OpnB Try.prog 24 know_Query := OpnB_struct (β := (List know_Part)) (fun (x : know_Query) => (x.parts)) (fun y => (⟨y⟩ : know_Query)) (fun _ => rfl) Try.underlying24 cells24 (OpnLB_one rfl cells22 o22)
theorem bulkAll {H : Type} : ∀ l : List (DataW H), Rows.uptoBulkAll l = (l.map Rows.uptoBulk).sum
  | [] => rfl
  | d :: l => by rw [Rows.uptoBulkAll, bulkAll l]; rfl
theorem bulkU {H : Type} : IsBulk (Rows.uptoBulk (H := H)) where
  one d := by
    cases d with
    | lit l => cases l <;> simp [Rows.uptoBulk]
    | nil => simp [Rows.uptoBulk]
    | ptr d => simp [Rows.uptoBulk]
    | slice elems spare => simp [Rows.uptoBulk]
    | agg parts => simp [Rows.uptoBulk]
    | iface t d => simp [Rows.uptoBulk]
    | map entries => simp [Rows.uptoBulk]
    | held h => simp [Rows.uptoBulk]
  str b := by simp [Rows.uptoBulk]
  slice es sp := by simp only [Rows.uptoBulk, bulkAll]; omega
  agg ps := by simp only [Rows.uptoBulk, bulkAll]; omega

set_option maxRecDepth 100000 in
theorem laid_met (os : Os) : laidMet Try.prog Rows.queryWritesUptoRow.laid ((World.laidAll Try.prog os Rows.queryWritesUptoRow.laid).forCall (fun _ _ => 0) ⟨#[], #[.agg #[.slice none 0 0]], []⟩).memory := laidMet_laidAll _ (by kernel_rfl) (by kernel_rfl)
set_option maxRecDepth 100000 in
theorem reads (os : Os) {H : Type} (enc : TypeId × Value → H) : ∃ places, DataW.whole enc Try.prog ((World.laidAll Try.prog os Rows.queryWritesUptoRow.laid).forCall (fun _ _ => 0) ⟨#[], #[.agg #[.slice none 0 0]], []⟩).memory Try.f4.params.toList Rows.queryWritesSpec.vars false #[.agg #[.slice none 0 0]].toList 8 = some ([.agg [.nil]], [], places) := ⟨[], by kernel_rfl⟩
set_option maxRecDepth 100000 in
theorem lifted (os : Os) (started : os.Started) (H : Type) (enc : TypeId × Value → H) (F : Stop.Interp) :
    ReturnsInHanded {} Try.checked os 4 .any ((Rows.OpenSpec.upto Rows.queryWritesSpec).preRow enc Try.prog Try.f4 Rows.queryWritesUptoRow.domain false Rows.queryWritesUptoRow.laid) (((Rows.OpenSpec.upto Rows.queryWritesSpec).at F).post enc Try.prog Try.f4 false true false false) := by
  obtain ⟨places, hx⟩ := reads os enc
  refine returnsInHanded_of_row (C := Try.checked) (s := (Rows.OpenSpec.upto Rows.queryWritesSpec)) own started (by kernel_rfl) Try.func4
    (witness_row_at (enc := enc) (C := Try.checked) false (World.laidAll Try.prog os Rows.queryWritesUptoRow.laid) #[.agg #[.slice none 0 0]] (World.laidAll_os _ _ _) (by kernel_rfl) (by kernel_rfl) (by kernel_rfl)
      (OpenSpec.preRow_of_cond 8 hx (by kernel_rfl) (fun k hk => by cases hk; kernel_rfl) (by kernel_rfl) (laid_met os))) ?_
  intro W base args ds gs before hval0 hW _ hcond _ hL hshape _
  have hval : ∀ (j : Nat) t v, Try.f4.params[j]? = some t → args[j]? = some v → Value.okWide Try.prog W .any base t v := hval0
  have hgs : gs = [] := by
    obtain ⟨p, q, _, hV, _⟩ := hW
    cases gs with
    | nil => rfl
    | cons g r => exact hV.elim
  subst hgs
  have hW' := hW
  obtain ⟨p, q, hA0, hV, rfl, hfz, hnd⟩ := hW
  have hA : DataW.TrodAll enc Try.prog W 0 (fun _ => true) true Try.f4.params.toList args.toList ds p := hA0
  rw [Try.params4] at hA hval
  obtain ⟨v0, vs0, d0, ds0, p0, q0, hargs, rfl, rfl, h0, r0⟩ := trodAll_cons hA
  obtain ⟨rfl, rfl, rfl⟩ := trodAll_nil r0
  obtain rfl : args = #[v0] := by cases args; simp_all
  obtain ⟨x0, cs0, rfl, hr0, wf0, bk0⟩ := argB_struct bulkU o24 Try.underlying24 (hval 0 24 v0 rfl rfl) h0
  obtain ⟨u0_1, rfl, u0g1⟩ := hr0
  clear hA0 hA hval0
  have hbulk : GoB.bulk x0 ≤ 1048576 := by
    have h := of_decide_eq_true (hcond _ rfl)
    simp only [List.cons_append, List.nil_append, List.append_nil, Rows.uptoBulkAll] at h
    omega
  refine Calls.mono (portlaw2_QueryWrites_c W (fun _ _ => trivial) x0 u0_1 u0g1 (writes_true x0 hbulk)) ?_
  rintro e W' ⟨v, rfl, rfl, hk⟩
  exact ⟨_, rfl, law_post rfl rfl rfl rfl rfl Try.underlying4 laidOut tys hW' hk⟩

theorem proved : Rows.QueryWritesUptoSaid :=
  OpenClaim.holds_of_cond 4 Try.f4 rfl rfl rfl rfl rfl rfl rfl ⟨rfl, rfl, rfl, rfl, rfl⟩ rfl rfl rfl rfl rfl (by kernel_rfl) Try.func4 (by kernel_rfl)
    (of_decide_eq_true (by kernel_rfl)) (by unfold Func.isWrapper; first | (rw [if_pos (by decide +kernel)]; kernel_rfl) | (rw [if_neg (by decide +kernel)]; exact ⟨rfl, rfl⟩))
    (fun os started H enc _ F => by rw [OpenClaim.pre_eq_preRow]; exact lifted os started H enc F)

#print axioms proved
end Go.Proofs.Ytgeagllbckdfhaa.QueryWrites
