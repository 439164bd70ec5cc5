/-
  CalSets: for every input the law returns true, and the input reads as it did. No condition.
-/
import Derived.Test.YtcebkcahemiaoaaRows
import Derived.Test.YtcebkcahemiaoaaCalSetsW1
import Derived.Test.YtcebkcahemiaoaaCalSetsSweepBase
import Derived.Test.YtcebkcahemiaoaaCalSetsSweepEq
import Derived.Test.YtcebkcahemiaoaaCalSetsSweepMain
import Derived.Test.YtcebkcahemiaoaaCalSetsCalSets
import Derived.Test.YtcebkcahemiaoaaGf
namespace Go.Proofs.Ytcebkcahemiaoaa.CalSets
open Go Go.ChangeShapes Go.WideShapes Go.ChangeAt Go.RowKit Go.Gw Go.Pu Go.Proofs.Ytcebkcahemiaoaa.M Go.Proofs.Ytcebkcahemiaoaa.W
set_option linter.unusedVariables false
set_option linter.unusedSimpArgs false

theorem own : ownKnob Try.prog.godebug = none := by kernel_rfl
theorem laidOut : laidOutB Try.prog = true := by kernel_rfl
theorem tys : (Try.f3.params.toList.all fun t => Try.prog.readableRec t && decide (t < Try.prog.types.size)) = true := by kernel_rfl
theorem cells22 : Try.prog.cellsOf 22 = 1 := by kernel_rfl
theorem cells30 : Try.prog.cellsOf 30 = 2 := by kernel_rfl
theorem cells3 : Try.prog.cellsOf 3 = 1 := by kernel_rfl
theorem o3 : Opn Try.prog 3 Int := Opn_int Try.underlying3
theorem o30 : Opn Try.prog 30 cal_Span := Opn_struct (β := Int × Int) (fun (x : cal_Span) => (x.from_, x.to_)) (fun y => (⟨y.1, y.2⟩ : cal_Span)) (fun _ => rfl) Try.underlying30 cells30 (OpnL_cons rfl cells3 o3 (OpnL_one rfl cells3 o3))
theorem o22 : Opn Try.prog 22 (List cal_Span) := Opn_slice Try.underlying22 o30 cells30 (by decide)

set_option maxRecDepth 100000 in
theorem lifted (os : Os) (started : os.Started) (H : Type) (enc : TypeId × Value → H) :
    ReturnsInHanded {} Try.checked os 3 .any (Rows.calSetsSpec.pre6 enc Try.prog Try.f3 Rows.calSetsRow.domain false) (Rows.calSetsSpec.post enc Try.prog Try.f3 false true false false) := by
  refine returnsInHanded_of_change (C := Try.checked) own started (by kernel_rfl) Try.func3
    (ChangeSpec.witness6 (enc := enc) (C := Try.checked) false ⟨#[], #[.slice none 0 0, .slice none 0 0], []⟩ 8 (by kernel_rfl) (by kernel_rfl) (by kernel_rfl) (by kernel_rfl)) ?_
  intro W base args ds gs before hval0 hW hcnd _
  have hval : ∀ (j : Nat) t v, Try.f3.params[j]? = some t → args[j]? = some v → Value.okWide Try.prog W .any base t v := hval0
  have hgs : gs = [] := by
    obtain ⟨p, q, _, hV, _⟩ := hW
    cases gs with
    | nil => rfl
    | cons g r => exact hV.elim
  subst hgs
  have hW' := hW
  obtain ⟨p, q, hA0, hV, rfl, hfz, hnd⟩ := hW
  have hA : DataW.TrodAll enc Try.prog W 0 (fun _ => true) true Try.f3.params.toList args.toList ds p := hA0
  rw [Try.params3] at hA hval
  obtain ⟨v0, vs0, d0, ds0, p0, q0, hargs, rfl, rfl, h0, r0⟩ := trodAll_cons hA
  obtain ⟨v1, vs1, d1, ds1, p1, q1, rfl, rfl, rfl, h1, r1⟩ := trodAll_cons r0
  obtain ⟨rfl, rfl, rfl⟩ := trodAll_nil r1
  obtain rfl : args = #[v0, v1] := by cases args; simp_all
  obtain ⟨x0, g0, wf0⟩ := arg_slice o22 Try.underlying22 (hval 0 22 v0 rfl rfl) h0
  obtain ⟨x1, g1, wf1⟩ := arg_slice o22 Try.underlying22 (hval 1 22 v1 rfl rfl) h1
  clear hA0 hA hval0
  refine Calls.mono (portlaw2_CalSets_c (Dw := True) W (fun _ _ => trivial) x0 v0 g0 x1 v1 g1 (sets_true x0 x1)) ?_
  rintro e W' ⟨v, rfl, rfl, hk⟩
  exact ⟨_, rfl, law_post rfl rfl rfl rfl rfl Try.underlying4 laidOut tys hW' hk.below⟩

theorem proved : Rows.CalSetsSaid :=
  OpenClaim.holds_of_wide 3 Try.f3 rfl rfl rfl rfl rfl rfl rfl ⟨rfl, rfl, rfl, rfl, rfl⟩ rfl rfl rfl rfl rfl (by kernel_rfl) Try.func3 (by kernel_rfl)
    (of_decide_eq_true (by kernel_rfl)) (by unfold Func.isWrapper; first | (rw [if_pos (by decide +kernel)]; kernel_rfl) | (rw [if_neg (by decide +kernel)]; exact ⟨rfl, rfl⟩))
    (fun os started H enc _ => lifted os started H enc)

#print axioms proved
end Go.Proofs.Ytcebkcahemiaoaa.CalSets
