/-
  PlanMakes: for every input the law returns true, and the input reads as it did. No condition.
-/
import Derived.Test.YtlclnbcjebpfkaaRows
import Derived.Test.YtlclnbcjebpfkaaPlanMakesW1
import Derived.Test.YtlclnbcjebpfkaaPlanMakesPlanMkBase
import Derived.Test.YtlclnbcjebpfkaaPlanMakesPlanMakes
import Derived.Test.YtlclnbcjebpfkaaGf
namespace Go.Proofs.Ytlclnbcjebpfkaa.PlanMakes
open Go Go.ChangeShapes Go.WideShapes Go.ChangeAt Go.RowKit Go.Gw Go.Pu Go.Proofs.Ytlclnbcjebpfkaa.M Go.Proofs.Ytlclnbcjebpfkaa.W
set_option linter.unusedVariables false

theorem own : ownKnob Try.prog.godebug = none := by kernel_rfl
theorem laidOut : laidOutB Try.prog = true := by kernel_rfl
theorem tys : (Try.f4.params.toList.all fun t => Try.prog.readableRec t && decide (t < Try.prog.types.size)) = true := by kernel_rfl
theorem cells22 : Try.prog.cellsOf 22 = 1 := by kernel_rfl
theorem cells27 : Try.prog.cellsOf 27 = 1 := by kernel_rfl
theorem cells65 : Try.prog.cellsOf 65 = 2 := by kernel_rfl
theorem cells3 : Try.prog.cellsOf 3 = 1 := by kernel_rfl
theorem o3 : Opn Try.prog 3 Int := Opn_int Try.underlying3
theorem o65 : Opn Try.prog 65 staff_Form := Opn_struct (β := Int × Int) (fun (x : staff_Form) => (x.from_, x.slots)) (fun y => (⟨y.1, y.2⟩ : staff_Form)) (fun _ => rfl) Try.underlying65 cells65 (OpnL_cons rfl cells3 o3 (OpnL_one rfl cells3 o3))
theorem o27 : Opn Try.prog 27 (List staff_Form) := Opn_slice Try.underlying27 o65 cells65 (by decide)
theorem o22 : Opn Try.prog 22 (List Int) := Opn_slice Try.underlying22 o3 cells3 (by decide)

set_option maxRecDepth 100000 in
theorem lifted (os : Os) (started : os.Started) (H : Type) (enc : TypeId × Value → H) :
    ReturnsInHanded {} Try.checked os 4 .any (Rows.planMakesSpec.pre6 enc Try.prog Try.f4 Rows.planMakesRow.domain false) (Rows.planMakesSpec.post enc Try.prog Try.f4 false true false false) := by
  refine returnsInHanded_of_change (C := Try.checked) own started (by kernel_rfl) Try.func4
    (ChangeSpec.witness6 (enc := enc) (C := Try.checked) false ⟨#[], #[.slice none 0 0, .slice none 0 0], []⟩ 8 (by kernel_rfl) (by kernel_rfl) (by kernel_rfl) (by kernel_rfl)) ?_
  intro W base args ds gs before hval0 hW hcnd _
  have hval : ∀ (j : Nat) t v, Try.f4.params[j]? = some t → args[j]? = some v → Value.okWide Try.prog W .any base t v := hval0
  have hgs : gs = [] := by
    obtain ⟨p, q, _, hV, _⟩ := hW
    cases gs with
    | nil => rfl
    | cons g r => exact hV.elim
  subst hgs
  have hW' := hW
  obtain ⟨p, q, hA0, hV, rfl, hfz, hnd⟩ := hW
  have hA : DataW.TrodAll enc Try.prog W 0 (fun _ => true) true Try.f4.params.toList args.toList ds p := hA0
  rw [Try.params4] at hA hval
  obtain ⟨v0, vs0, d0, ds0, p0, q0, hargs, rfl, rfl, h0, r0⟩ := trodAll_cons hA
  obtain ⟨v1, vs1, d1, ds1, p1, q1, rfl, rfl, rfl, h1, r1⟩ := trodAll_cons r0
  obtain ⟨rfl, rfl, rfl⟩ := trodAll_nil r1
  obtain rfl : args = #[v0, v1] := by cases args; simp_all
  obtain ⟨x0, g0, wf0⟩ := arg_slice o27 Try.underlying27 (hval 0 27 v0 rfl rfl) h0
  obtain ⟨x1, g1, wf1⟩ := arg_slice o22 Try.underlying22 (hval 1 22 v1 rfl rfl) h1
  clear hA0 hA hval0
  refine Calls.mono (portlaw2_PlanMakes_c W (fun _ _ => trivial) x0 v0 g0 x1 v1 g1 (makes_true x0 x1)) ?_
  rintro e W' ⟨v, rfl, rfl, hk⟩
  exact ⟨_, rfl, law_post rfl rfl rfl rfl rfl Try.underlying4 laidOut tys hW' hk⟩

theorem proved : Rows.PlanMakesSaid :=
  OpenClaim.holds_of_wide 4 Try.f4 rfl rfl rfl rfl rfl rfl rfl ⟨rfl, rfl, rfl, rfl, rfl⟩ rfl rfl rfl rfl rfl (by kernel_rfl) Try.func4 (by kernel_rfl)
    (of_decide_eq_true (by kernel_rfl)) (by unfold Func.isWrapper; first | (rw [if_pos (by decide +kernel)]; kernel_rfl) | (rw [if_neg (by decide +kernel)]; exact ⟨rfl, rfl⟩))
    (fun os started H enc _ => lifted os started H enc)
#print axioms proved
end Go.Proofs.Ytlclnbcjebpfkaa.PlanMakes
