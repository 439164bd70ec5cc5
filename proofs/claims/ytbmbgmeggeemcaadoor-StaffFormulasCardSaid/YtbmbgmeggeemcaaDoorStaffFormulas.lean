/-
  StaffFormulas: for every input the law returns true, and the input reads as it did. No condition.
-/
import Derived.Test.YtbmbgmeggeemcaaDoorRows
import Derived.Test.YtbmbgmeggeemcaaDoorStaffFormulasW4
import Derived.Test.YtbmbgmeggeemcaaDoorStaffFormulasBigA
import Derived.Test.YtbmbgmeggeemcaaDoorStaffFormulasBigWh
import Derived.Test.YtbmbgmeggeemcaaDoorStaffFormulasBigWmin
import Derived.Test.YtbmbgmeggeemcaaDoorStaffFormulasBigBy
import Derived.Test.YtbmbgmeggeemcaaDoorStaffFormulasBigB
import Derived.Test.YtbmbgmeggeemcaaDoorStaffFormulasBigRound
import Derived.Test.YtbmbgmeggeemcaaDoorStaffFormulasBigMain
import Derived.Test.YtbmbgmeggeemcaaDoorStaffFormulasBigD
import Derived.Test.YtbmbgmeggeemcaaDoorStaffFormulasBigWait
import Derived.Test.YtbmbgmeggeemcaaDoorStaffFormulasBigMean
import Derived.Test.YtbmbgmeggeemcaaDoorStaffFormulasBigCase
import Derived.Test.YtbmbgmeggeemcaaDoorStaffFormulasBigQuot
import Derived.Test.YtbmbgmeggeemcaaDoorStaffFormulasBigDivs
import Derived.Test.YtbmbgmeggeemcaaDoorStaffFormulasBigGcd
import Derived.Test.YtbmbgmeggeemcaaDoorStaffFormulasBigC
import Derived.Test.YtbmbgmeggeemcaaDoorStaffFormulasStaffFormulas
import Derived.Test.YtbmbgmeggeemcaaDoorGf
import Derived.Test.YtbmbgmeggeemcaaDoorTie
import Derived.Test.YtbmbgmeggeemcaaDoorCards
import Derived.SevenTiedAt
import Derived.LaidMore
import Derived.Lay
import Derived.Stop.Joined
namespace Go.Proofs.YtbmbgmeggeemcaaDoor.StaffFormulas
open Go Go.ChangeShapes Go.WideShapes Go.ChangeAt Go.RowKit Go.Gw Go.Pu Go.Proofs.YtbmbgmeggeemcaaDoor.M Go.Proofs.YtbmbgmeggeemcaaDoor.W
set_option linter.unusedVariables false
set_option linter.unusedSimpArgs false

theorem own : ownKnob Tryd.prog.godebug = none := by kernel_rfl
theorem laidOut : laidOutB Tryd.prog = true := by kernel_rfl
theorem tys : (Tryd.f3.params.toList.all fun t => Tryd.prog.readableRec t && decide (t < Tryd.prog.types.size)) = true := by kernel_rfl
theorem cells23 : Tryd.prog.cellsOf 23 = 3 := by kernel_rfl
theorem cells3 : Tryd.prog.cellsOf 3 = 1 := by kernel_rfl
theorem o3 : Opn Tryd.prog 3 Int := Opn_int Tryd.underlying3
theorem o23 : Opn Tryd.prog 23 staff_Load := Opn_struct (β := Int × Int × Int) (fun (x : staff_Load) => (x.calls, x.length, x.span)) (fun y => (⟨y.1, y.2.1, y.2.2⟩ : staff_Load)) (fun _ => rfl) Tryd.underlying23 cells23 (OpnL_cons rfl cells3 o3 (OpnL_cons rfl cells3 o3 (OpnL_one rfl cells3 o3)))

set_option maxRecDepth 100000 in
theorem lifted (os : Os) (started : os.Started) (H : Type) (enc : TypeId × Value → H) :
    ReturnsInHanded {} Tryd.checked os 3 .any (fun w args => (Rows.staffFormulasSpec.pre enc Tryd.prog Tryd.f3 Rows.staffFormulasRow.domain false w args ∧ laidMetH Tryd.prog Rows.staffFormulasRow.laid w) ∧ sizedMet enc Tryd.prog Tryd.f3 (OpenSpec.ofChange Rows.staffFormulasSpec) false w args) (Rows.staffFormulasSpec.post enc Tryd.prog Tryd.f3 false true false false) := by
  refine returnsInHanded_of_change_and (C := Tryd.checked) (X := fun w _ => laidMetH Tryd.prog Rows.staffFormulasRow.laid w) (fun _ _ _ hh h => h.of_heap hh) own started (by kernel_rfl) Tryd.func3
    (ChangeSpec.witness_shaped (enc := enc) (C := Tryd.checked) (os := os) (X := fun w _ => laidMetH Tryd.prog Rows.staffFormulasRow.laid w) false (World.laidAll Tryd.prog os Rows.staffFormulasRow.laid) #[.agg #[.int .i64 0, .int .i64 0, .int .i64 0], .int .i64 0] 8 (World.laidAll_os _ _ _) (World.shaped_of_ZipB (by kernel_rfl) (by kernel_rfl)) (by kernel_rfl) (by kernel_rfl) (by kernel_rfl)
      (by rw [MakeChecks.laidMetH_plain _ _ _ (by kernel_rfl)]; exact laidMet_laidAll _ (by kernel_rfl) (by kernel_rfl))) ?_
  intro W base args ds gs before hval0 hW _ _ hL _
  have hval : ∀ (j : Nat) t v, Tryd.f3.params[j]? = some t → args[j]? = some v → Value.okWide Tryd.prog W .any base t v := hval0
  have hgs : gs = [] := by
    obtain ⟨p, q, _, hV, _⟩ := hW
    cases gs with
    | nil => rfl
    | cons g r => exact hV.elim
  subst hgs
  have hW' := hW
  obtain ⟨p, q, hA0, hV, rfl, hfz, hnd⟩ := hW
  have hA : DataW.TrodAll enc Tryd.prog W 0 (fun _ => true) true Tryd.f3.params.toList args.toList ds p := hA0
  rw [Tryd.params3] at hA hval
  obtain ⟨v0, vs0, d0, ds0, p0, q0, hargs, rfl, rfl, h0, r0⟩ := trodAll_cons hA
  obtain ⟨v1, vs1, d1, ds1, p1, q1, rfl, rfl, rfl, h1, r1⟩ := trodAll_cons r0
  obtain ⟨rfl, rfl, rfl⟩ := trodAll_nil r1
  obtain rfl : args = #[v0, v1] := by cases args; simp_all
  obtain ⟨x0, cs0, rfl, hr0, wf0⟩ := arg_struct o23 Tryd.underlying23 (hval 0 23 v0 rfl rfl) h0
  obtain ⟨_, _, rfl, rfl, ⟨_, _, rfl, rfl, rfl⟩⟩ := hr0
  obtain ⟨x1, rfl, wf1⟩ := arg_int Tryd.underlying3 (hval 1 3 v1 rfl rfl) h1
  clear hA0 hA hval0
  refine Calls.mono (portlaw2_StaffFormulas_c W (fun _ _ => trivial) (Tb.laid hL (by kernel_rfl) (by simp only [Rows.staffFormulasRow, List.mem_cons]; first | exact .inl rfl | exact .inr (.inl rfl) | exact .inr (.inr (.inl rfl)) | exact .inr (.inr (.inr (.inl rfl))) | exact .inr (.inr (.inr (.inr (.inl rfl))))) (g := 0) (by kernel_rfl) (by kernel_rfl) Tryd.underlying107 Tryd.underlying73 (by kernel_rfl) (by kernel_rfl)) x0 x1 (formulas_true x0 x1)) ?_
  rintro e W' ⟨v, rfl, rfl, hk⟩
  exact ⟨_, rfl, law_post rfl rfl rfl rfl rfl Tryd.underlying4 laidOut tys hW' hk.below⟩

theorem said : Rows.StaffFormulasSaid :=
  OpenClaim.holds_of_wide 3 Tryd.f3 rfl rfl rfl rfl rfl rfl rfl ⟨rfl, rfl, rfl, rfl, rfl⟩ rfl rfl rfl rfl rfl (by kernel_rfl) Tryd.func3 (by kernel_rfl)
    (of_decide_eq_true (by kernel_rfl)) (by unfold Func.isWrapper; first | (rw [if_pos (by decide +kernel)]; kernel_rfl) | (rw [if_neg (by decide +kernel)]; exact ⟨rfl, rfl⟩))
    (fun os started H enc _ => lifted os started H enc)

theorem proved : Rows.StaffFormulasCardSaid :=
  Claim7.holds_tied_plain_at .later [] [.data, .data, .data] true (true, "b15242e63c6ab547fc42c4bbc677bde098d17f71c9446f2c91a9a36640d90914") false
    said (fun _ h => by cases h) (by kernel_rfl) (fun _ h => by cases h) staffFormulas_row_tie rfl ⟨rfl, rfl⟩ (by kernel_rfl) rfl
    (fun f fn hf hfn => by
      obtain rfl : f = 3 := Option.some.inj ((show Tryd.prog.funcNamed "porterslodge/portlaw2.StaffFormulas" = some 3 by kernel_rfl).symm.trans hf) |>.symm
      obtain rfl : fn = Tryd.f3 := (Option.some.inj (Tryd.func3.symm.trans hfn)).symm
      exact ⟨by kernel_rfl, fun j t ht => by
        rw [Tryd.params3] at ht
        have hm : t ∈ [23, 3] := by simpa using Array.mem_of_getElem? ht
        have hall : ([23, 3].all fun u => !Tryd.prog.wantsStandIn u) = true := by kernel_rfl
        exact (show Tryd.prog.wantsStandIn t = false by simpa using List.all_eq_true.1 hall t hm)⟩)
    (by kernel_rfl)
#print axioms proved
end Go.Proofs.YtbmbgmeggeemcaaDoor.StaffFormulas
