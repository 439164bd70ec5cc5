/-
  PlanCovers: for every input the law returns true, and the input reads as it did. No condition.
-/
import Derived.Test.YtlclnbcjebpfkaaRows
import Derived.Test.YtlclnbcjebpfkaaPlanCoversW1
import Derived.Test.YtlclnbcjebpfkaaPlanCoversPlanCovers
import Derived.Test.YtlclnbcjebpfkaaFr
namespace Go.Proofs.Ytlclnbcjebpfkaa.PlanCovers
open Go Go.ChangeShapes Go.WideShapes Go.ChangeAt Go.RowKit Go.Fw Go.Pu Go.Proofs.Ytlclnbcjebpfkaa.M Go.Proofs.Ytlclnbcjebpfkaa.W
set_option linter.unusedVariables false

theorem own : ownKnob Try.prog.godebug = none := by kernel_rfl
theorem laidOut : laidOutB Try.prog = true := by kernel_rfl
theorem tys : (Try.f5.params.toList.all fun t => Try.prog.readableRec t && decide (t < Try.prog.types.size)) = true := by kernel_rfl
theorem cells22 : Try.prog.cellsOf 22 = 1 := by kernel_rfl
theorem cells27 : Try.prog.cellsOf 27 = 1 := by kernel_rfl
theorem cells65 : Try.prog.cellsOf 65 = 2 := by kernel_rfl
theorem cells3 : Try.prog.cellsOf 3 = 1 := by kernel_rfl
theorem o3 : Opn Try.prog 3 Int := Opn_int Try.underlying3
theorem o65 : Opn Try.prog 65 staff_Form := Opn_struct (β := Int × Int) (fun (x : staff_Form) => (x.from_, x.slots)) (fun y => (⟨y.1, y.2⟩ : staff_Form)) (fun _ => rfl) Try.underlying65 cells65 (OpnL_cons rfl cells3 o3 (OpnL_one rfl cells3 o3))
theorem o27 : Opn Try.prog 27 (List staff_Form) := Opn_slice Try.underlying27 o65 cells65 (by decide)
theorem o22 : Opn Try.prog 22 (List Int) := Opn_slice Try.underlying22 o3 cells3 (by decide)

set_option maxRecDepth 100000 in
theorem lifted (os : Os) (started : os.Started) (H : Type) (enc : TypeId × Value → H) :
    ReturnsInHanded {} Try.checked os 5 .any (Rows.planCoversSpec.pre6 enc Try.prog Try.f5 Rows.planCoversRow.domain false) (Rows.planCoversSpec.post enc Try.prog Try.f5 false true false false) := by
  refine returnsInHanded_of_change (C := Try.checked) own started (by kernel_rfl) Try.func5
    (ChangeSpec.witness6 (enc := enc) (C := Try.checked) false ⟨#[], #[.slice none 0 0, .int .i64 0, .slice none 0 0, .slice none 0 0, .slice none 0 0], []⟩ 8 (by kernel_rfl) (by kernel_rfl) (by kernel_rfl) (by kernel_rfl)) ?_
  intro W base args ds gs before hval0 hW hcnd _
  have hval : ∀ (j : Nat) t v, Try.f5.params[j]? = some t → args[j]? = some v → Value.okWide Try.prog W .any base t v := hval0
  have hgs : gs = [] := by
    obtain ⟨p, q, _, hV, _⟩ := hW
    cases gs with
    | nil => rfl
    | cons g r => exact hV.elim
  subst hgs
  have hW' := hW
  obtain ⟨p, q, hA0, hV, rfl, hfz, hnd⟩ := hW
  have hA : DataW.TrodAll enc Try.prog W 0 (fun _ => true) true Try.f5.params.toList args.toList ds p := hA0
  rw [Try.params5] at hA hval
  obtain ⟨v0, vs0, d0, ds0, p0, q0, hargs, rfl, rfl, h0, r0⟩ := trodAll_cons hA
  obtain ⟨v1, vs1, d1, ds1, p1, q1, rfl, rfl, rfl, h1, r1⟩ := trodAll_cons r0
  obtain ⟨v2, vs2, d2, ds2, p2, q2, rfl, rfl, rfl, h2, r2⟩ := trodAll_cons r1
  obtain ⟨v3, vs3, d3, ds3, p3, q3, rfl, rfl, rfl, h3, r3⟩ := trodAll_cons r2
  obtain ⟨v4, vs4, d4, ds4, p4, q4, rfl, rfl, rfl, h4, r4⟩ := trodAll_cons r3
  obtain ⟨rfl, rfl, rfl⟩ := trodAll_nil r4
  obtain rfl : args = #[v0, v1, v2, v3, v4] := by cases args; simp_all
  obtain ⟨x0, g0, wf0⟩ := arg_slice o27 Try.underlying27 (hval 0 27 v0 rfl rfl) h0
  obtain ⟨x1, rfl, wf1⟩ := arg_int Try.underlying3 (hval 1 3 v1 rfl rfl) h1
  obtain ⟨x2, g2, wf2⟩ := arg_slice o22 Try.underlying22 (hval 2 22 v2 rfl rfl) h2
  obtain ⟨x3, g3, wf3⟩ := arg_slice o22 Try.underlying22 (hval 3 22 v3 rfl rfl) h3
  obtain ⟨x4, g4, wf4⟩ := arg_slice o22 Try.underlying22 (hval 4 22 v4 rfl rfl) h4
  clear hA0 hA hval0
  refine Calls.mono (portlaw2_PlanCovers_c W (fun _ _ => trivial) x0 v0 g0 x1 x2 v2 g2 x3 v3 g3 x4 v4 g4 (covers_true x0 x1 x2 x3 x4)) ?_
  rintro e W' ⟨v, rfl, rfl, hk⟩
  exact ⟨_, rfl, law_post rfl rfl rfl rfl rfl Try.underlying4 laidOut tys hW' hk⟩

theorem proved : Rows.PlanCoversSaid :=
  OpenClaim.holds_of_wide 5 Try.f5 rfl rfl rfl rfl rfl rfl rfl ⟨rfl, rfl, rfl, rfl, rfl⟩ rfl rfl rfl rfl rfl (by kernel_rfl) Try.func5 (by kernel_rfl)
    (of_decide_eq_true (by kernel_rfl)) (by unfold Func.isWrapper; first | (rw [if_pos (by decide +kernel)]; kernel_rfl) | (rw [if_neg (by decide +kernel)]; exact ⟨rfl, rfl⟩))
    (fun os started H enc _ => lifted os started H enc)
#print axioms proved
end Go.Proofs.Ytlclnbcjebpfkaa.PlanCovers
