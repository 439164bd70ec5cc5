/-
  KnowPatches: for every input the law returns true, and the input reads as it did. No condition.
-/
import Derived.Test.YtcokjipcmpfgbaaDoorRows
import Derived.Test.YtcokjipcmpfgbaaDoorKnowPatchesW0
import Derived.Test.YtcokjipcmpfgbaaDoorKnowPatchesPatchBase
import Derived.Test.YtcokjipcmpfgbaaDoorKnowPatchesPatchOne
import Derived.Test.YtcokjipcmpfgbaaDoorKnowPatchesKnowPatches
import Derived.Test.YtcokjipcmpfgbaaDoorGf
import Derived.Test.YtcokjipcmpfgbaaDoorTie
import Derived.Test.YtcokjipcmpfgbaaDoorCards
import Derived.SevenTiedAt
import Derived.LaidMore
import Derived.Lay
import Derived.Stop.Joined
import Derived.Test.YtcokjipcmpfgbaaDoorHb
import Derived.Deep.DeepHandedRow
namespace Go.Proofs.YtcokjipcmpfgbaaDoor.KnowPatches
open Go Go.ChangeShapes Go.WideShapes Go.ChangeAt Go.RowKit Go.Gw Go.Pu Go.Proofs.YtcokjipcmpfgbaaDoor.M Go.Proofs.YtcokjipcmpfgbaaDoor.W
set_option linter.unusedVariables false
set_option linter.unusedSimpArgs false

theorem own : ownKnob Tryd.prog.godebug = none := by kernel_rfl
theorem laidOut : laidOutB Tryd.prog = true := by kernel_rfl
theorem tys : (Tryd.f3.params.toList.all fun t => Tryd.prog.readableRec t && decide (t < Tryd.prog.types.size)) = true := by kernel_rfl
instance : GoB know_Edit := GoB.of (β := Int × Int × (List ByteArray)) fun x => (x.at_, x.drop, x.add)
theorem cells22 : Tryd.prog.cellsOf 22 = 1 := by kernel_rfl
theorem cells56 : Tryd.prog.cellsOf 56 = 3 := by kernel_rfl
theorem cells53 : Tryd.prog.cellsOf 53 = 1 := by kernel_rfl
theorem cells3 : Tryd.prog.cellsOf 3 = 1 := by kernel_rfl
theorem cells9 : Tryd.prog.cellsOf 9 = 1 := by kernel_rfl
theorem o9 : OpnB Tryd.prog 9 ByteArray := OpnB_str Tryd.underlying9
theorem o3 : OpnB Tryd.prog 3 Int := OpnB_int Tryd.underlying3
theorem o53 : OpnB Tryd.prog 53 (List ByteArray) := OpnB_slice Tryd.underlying53 o9 cells9 (by decide)
theorem o56 : OpnB Tryd.prog 56 know_Edit := OpnB_struct (β := Int × Int × (List ByteArray)) (fun (x : know_Edit) => (x.at_, x.drop, x.add)) (fun y => (⟨y.1, y.2.1, y.2.2⟩ : know_Edit)) (fun _ => rfl) Tryd.underlying56 cells56 (OpnLB_cons rfl cells3 o3 (OpnLB_cons rfl cells3 o3 (OpnLB_one rfl cells53 o53)))
theorem o22 : OpnB Tryd.prog 22 (List know_Edit) := OpnB_slice Tryd.underlying22 o56 cells56 (by decide)
theorem bulkAll {H : Type} : ∀ l : List (DataW H), Rows.uptoBulkAll l = (l.map Rows.uptoBulk).sum
  | [] => rfl
  | d :: l => by rw [Rows.uptoBulkAll, bulkAll l]; rfl
theorem bulkU {H : Type} : IsBulk (Rows.uptoBulk (H := H)) where
  one d := by
    cases d with
    | lit l => cases l <;> simp [Rows.uptoBulk]
    | nil => simp [Rows.uptoBulk]
    | ptr d => simp [Rows.uptoBulk]
    | slice elems spare => simp [Rows.uptoBulk]
    | agg parts => simp [Rows.uptoBulk]
    | iface t d => simp [Rows.uptoBulk]
    | map entries => simp [Rows.uptoBulk]
    | held h => simp [Rows.uptoBulk]
  str b := by simp [Rows.uptoBulk]
  slice es sp := by simp only [Rows.uptoBulk, bulkAll]; omega
  agg ps := by simp only [Rows.uptoBulk, bulkAll]; omega

set_option maxRecDepth 100000 in
theorem laid_met (os : Os) : laidMet Tryd.prog Rows.knowPatchesUptoRow.laid ((World.laidAll Tryd.prog os Rows.knowPatchesUptoRow.laid).forCall (fun _ _ => 0) ⟨#[], #[.string ByteArray.empty, .slice none 0 0], []⟩).memory := laidMet_laidAll _ (by kernel_rfl) (by kernel_rfl)
set_option maxRecDepth 100000 in
theorem reads (os : Os) {H : Type} (enc : TypeId × Value → H) : ∃ places, DataW.whole enc Tryd.prog ((World.laidAll Tryd.prog os Rows.knowPatchesUptoRow.laid).forCall (fun _ _ => 0) ⟨#[], #[.string ByteArray.empty, .slice none 0 0], []⟩).memory Tryd.f3.params.toList Rows.knowPatchesSpec.vars false #[.string ByteArray.empty, .slice none 0 0].toList 8 = some ([.lit (.string []), .nil], [], places) := ⟨[], by kernel_rfl⟩
set_option maxRecDepth 100000 in
theorem lifted (os : Os) (started : os.Started) (H : Type) (enc : TypeId × Value → H) (F : Stop.Interp) :
    ReturnsInHanded {} Tryd.checked os 3 .any ((Rows.OpenSpec.upto Rows.knowPatchesSpec).preRow enc Tryd.prog Tryd.f3 Rows.knowPatchesUptoRow.domain false Rows.knowPatchesUptoRow.laid) (((Rows.OpenSpec.upto Rows.knowPatchesSpec).at F).post enc Tryd.prog Tryd.f3 false true false false) := by
  obtain ⟨places, hx⟩ := reads os enc
  refine returnsInHanded_of_row (C := Tryd.checked) (s := (Rows.OpenSpec.upto Rows.knowPatchesSpec)) own started (by kernel_rfl) Tryd.func3
    (witness_row_at (enc := enc) (C := Tryd.checked) false (World.laidAll Tryd.prog os Rows.knowPatchesUptoRow.laid) #[.string ByteArray.empty, .slice none 0 0] (World.laidAll_os _ _ _) (by kernel_rfl) (by kernel_rfl) (by kernel_rfl)
      (OpenSpec.preRow_of_cond 8 hx (by kernel_rfl) (fun k hk => by cases hk; kernel_rfl) (by kernel_rfl) (laid_met os))) ?_
  intro W base args ds gs before hval0 hW _ hcond _ hL hshape _
  have hval : ∀ (j : Nat) t v, Tryd.f3.params[j]? = some t → args[j]? = some v → Value.okWide Tryd.prog W .any base t v := hval0
  have hgs : gs = [] := by
    obtain ⟨p, q, _, hV, _⟩ := hW
    cases gs with
    | nil => rfl
    | cons g r => exact hV.elim
  subst hgs
  have hW' := hW
  obtain ⟨p, q, hA0, hV, rfl, hfz, hnd⟩ := hW
  have hA : DataW.TrodAll enc Tryd.prog W 0 (fun _ => true) true Tryd.f3.params.toList args.toList ds p := hA0
  rw [Tryd.params3] at hA hval
  obtain ⟨v0, vs0, d0, ds0, p0, q0, hargs, rfl, rfl, h0, r0⟩ := trodAll_cons hA
  obtain ⟨v1, vs1, d1, ds1, p1, q1, rfl, rfl, rfl, h1, r1⟩ := trodAll_cons r0
  obtain ⟨rfl, rfl, rfl⟩ := trodAll_nil r1
  obtain rfl : args = #[v0, v1] := by cases args; simp_all
  obtain ⟨x0, rfl, wf0, bk0⟩ := argB_str bulkU Tryd.underlying9 (hval 0 9 v0 rfl rfl) h0
  obtain ⟨x1, g1, wf1, bk1⟩ := argB_slice bulkU o22 Tryd.underlying22 (hval 1 22 v1 rfl rfl) h1
  clear hA0 hA hval0
  have hbulk : GoB.bulk x0 + GoB.bulk x1 ≤ 1048576 := by
    have h := of_decide_eq_true (hcond _ rfl)
    simp only [List.cons_append, List.nil_append, List.append_nil, Rows.uptoBulkAll] at h
    omega
  refine Calls.mono (portlaw2_KnowPatches_c W (fun _ _ => trivial) (Mx.shape hshape (g := 2) (of_decide_eq_true (by kernel_rfl)) (zero := #[.int .i64 0]) (t := 3) (by kernel_rfl) rfl (by kernel_rfl) (by kernel_rfl) Tryd.underlying3) x0 x1 v1 g1 (patches_true x0 x1 hbulk)) ?_
  rintro e W' ⟨v, rfl, rfl, hk⟩
  exact ⟨_, rfl, law_post rfl rfl rfl rfl rfl Tryd.underlying4 laidOut tys hW' hk⟩

theorem said : Rows.KnowPatchesUptoSaid :=
  OpenClaim.holds_of_cond 3 Tryd.f3 rfl rfl rfl rfl rfl rfl rfl ⟨rfl, rfl, rfl, rfl, rfl⟩ rfl rfl rfl rfl rfl (by kernel_rfl) Tryd.func3 (by kernel_rfl)
    (of_decide_eq_true (by kernel_rfl)) (by unfold Func.isWrapper; first | (rw [if_pos (by decide +kernel)]; kernel_rfl) | (rw [if_neg (by decide +kernel)]; exact ⟨rfl, rfl⟩))
    (fun os started H enc _ F => by rw [OpenClaim.pre_eq_preRow]; exact lifted os started H enc F)

theorem proved : Rows.KnowPatchesUptoCardSaid :=
  Claim7.holds_tied_plain_at .later [] [.data, .pinned] true (true, "163bad40c9e988fd1ee8106f7031f293d746c4f5fae758c5da371ccf2216c9aa") true
    said (fun _ h => by cases h) (by kernel_rfl) (fun _ h => by cases h) knowPatchesUpto_row_tie rfl ⟨rfl, rfl⟩ (by kernel_rfl) rfl
    (fun f fn hf hfn => by
      obtain rfl : f = 3 := Option.some.inj ((show Tryd.prog.funcNamed "porterslodge/portlaw2.KnowPatches" = some 3 by kernel_rfl).symm.trans hf) |>.symm
      obtain rfl : fn = Tryd.f3 := (Option.some.inj (Tryd.func3.symm.trans hfn)).symm
      exact ⟨by kernel_rfl, fun j t ht => by
        rw [Tryd.params3] at ht
        have hm : t ∈ [9, 22] := by simpa using Array.mem_of_getElem? ht
        have hall : ([9, 22].all fun u => !Tryd.prog.wantsStandIn u) = true := by kernel_rfl
        exact (show Tryd.prog.wantsStandIn t = false by simpa using List.all_eq_true.1 hall t hm)⟩)
    (by kernel_rfl)
#print axioms proved
end Go.Proofs.YtcokjipcmpfgbaaDoor.KnowPatches
