/-
  RosterJudges: for every input the law returns true, and the input reads as it did. No condition.
-/
import Derived.Test.YtcfhifbmjjhhdaaRows
import Derived.Test.YtcfhifbmjjhhdaaRosterJudgesW1
import Derived.Test.YtcfhifbmjjhhdaaRosterJudgesRosForm
import Derived.Test.YtcfhifbmjjhhdaaRosterJudgesCmpBase
import Derived.Test.YtcfhifbmjjhhdaaRosterJudgesMapBase
import Derived.Test.YtcfhifbmjjhhdaaRosterJudgesRngBase
import Derived.Test.YtcfhifbmjjhhdaaRosterJudgesRosJudge
import Derived.Test.YtcfhifbmjjhhdaaRosterJudgesRosterJudges
import Derived.Test.YtcfhifbmjjhhdaaGf
namespace Go.Proofs.Ytcfhifbmjjhhdaa.RosterJudges
open Go Go.ChangeShapes Go.WideShapes Go.ChangeAt Go.RowKit Go.Gw Go.Pu Go.Proofs.Ytcfhifbmjjhhdaa.M Go.Proofs.Ytcfhifbmjjhhdaa.W
set_option linter.unusedVariables false
set_option linter.unusedSimpArgs false

theorem own : ownKnob Try.prog.godebug = none := by kernel_rfl
theorem laidOut : laidOutB Try.prog = true := by kernel_rfl
theorem tys : (Try.f3.params.toList.all fun t => Try.prog.readableRec t && decide (t < Try.prog.types.size)) = true := by kernel_rfl
theorem cells25 : Try.prog.cellsOf 25 = 1 := by kernel_rfl
theorem cells49 : Try.prog.cellsOf 49 = 2 := by kernel_rfl
theorem cells24 : Try.prog.cellsOf 24 = 3 := by kernel_rfl
theorem cells22 : Try.prog.cellsOf 22 = 1 := by kernel_rfl
theorem cells53 : Try.prog.cellsOf 53 = 2 := by kernel_rfl
theorem cells3 : Try.prog.cellsOf 3 = 1 := by kernel_rfl
theorem o3 : Opn Try.prog 3 Int := Opn_int Try.underlying3
theorem o53 : Opn Try.prog 53 staff_Form := Opn_struct (β := Int × Int) (fun (x : staff_Form) => (x.from_, x.slots)) (fun y => (⟨y.1, y.2⟩ : staff_Form)) (fun _ => rfl) Try.underlying53 cells53 (OpnL_cons rfl cells3 o3 (OpnL_one rfl cells3 o3))
theorem o22 : Opn Try.prog 22 (List staff_Form) := Opn_slice Try.underlying22 o53 cells53 (by decide)
theorem o24 : Opn Try.prog 24 staff_Rules := Opn_struct (β := Int × Int × Int) (fun (x : staff_Rules) => (x.people, x.rest_, x.most)) (fun y => (⟨y.1, y.2.1, y.2.2⟩ : staff_Rules)) (fun _ => rfl) Try.underlying24 cells24 (OpnL_cons rfl cells3 o3 (OpnL_cons rfl cells3 o3 (OpnL_one rfl cells3 o3)))
theorem o49 : Opn Try.prog 49 staff_Duty := Opn_struct (β := Int × Int) (fun (x : staff_Duty) => (x.form, x.person)) (fun y => (⟨y.1, y.2⟩ : staff_Duty)) (fun _ => rfl) Try.underlying49 cells49 (OpnL_cons rfl cells3 o3 (OpnL_one rfl cells3 o3))
theorem o25 : Opn Try.prog 25 (List staff_Duty) := Opn_slice Try.underlying25 o49 cells49 (by decide)

set_option maxRecDepth 100000 in
theorem lifted (os : Os) (started : os.Started) (H : Type) (enc : TypeId × Value → H) :
    ReturnsInHanded {} Try.checked os 3 .any (Rows.rosterJudgesSpec.pre6 enc Try.prog Try.f3 Rows.rosterJudgesRow.domain false) (Rows.rosterJudgesSpec.post enc Try.prog Try.f3 false true false false) := by
  refine returnsInHanded_of_change (C := Try.checked) own started (by kernel_rfl) Try.func3
    (ChangeSpec.witness6 (enc := enc) (C := Try.checked) false ⟨#[], #[.slice none 0 0, .agg #[.int .i64 0, .int .i64 0, .int .i64 0], .slice none 0 0], []⟩ 8 (by kernel_rfl) (by kernel_rfl) (by kernel_rfl) (by kernel_rfl)) ?_
  intro W base args ds gs before hval0 hW hcnd _
  have hval : ∀ (j : Nat) t v, Try.f3.params[j]? = some t → args[j]? = some v → Value.okWide Try.prog W .any base t v := hval0
  have hgs : gs = [] := by
    obtain ⟨p, q, _, hV, _⟩ := hW
    cases gs with
    | nil => rfl
    | cons g r => exact hV.elim
  subst hgs
  have hW' := hW
  obtain ⟨p, q, hA0, hV, rfl, hfz, hnd⟩ := hW
  have hA : DataW.TrodAll enc Try.prog W 0 (fun _ => true) true Try.f3.params.toList args.toList ds p := hA0
  rw [Try.params3] at hA hval
  obtain ⟨v0, vs0, d0, ds0, p0, q0, hargs, rfl, rfl, h0, r0⟩ := trodAll_cons hA
  obtain ⟨v1, vs1, d1, ds1, p1, q1, rfl, rfl, rfl, h1, r1⟩ := trodAll_cons r0
  obtain ⟨v2, vs2, d2, ds2, p2, q2, rfl, rfl, rfl, h2, r2⟩ := trodAll_cons r1
  obtain ⟨rfl, rfl, rfl⟩ := trodAll_nil r2
  obtain rfl : args = #[v0, v1, v2] := by cases args; simp_all
  obtain ⟨x0, g0, wf0⟩ := arg_slice o22 Try.underlying22 (hval 0 22 v0 rfl rfl) h0
  obtain ⟨x1, cs1, rfl, hr1, wf1⟩ := arg_struct o24 Try.underlying24 (hval 1 24 v1 rfl rfl) h1
  obtain ⟨_, _, rfl, rfl, ⟨_, _, rfl, rfl, rfl⟩⟩ := hr1
  obtain ⟨x2, g2, wf2⟩ := arg_slice o25 Try.underlying25 (hval 2 25 v2 rfl rfl) h2
  clear hA0 hA hval0
  refine Calls.mono (portlaw2_RosterJudges_c (Dw := True) W (fun _ _ => trivial) x0 v0 g0 x1 x2 v2 g2 (judges_true x0 x1 x2)) ?_
  rintro e W' ⟨v, rfl, rfl, hk⟩
  exact ⟨_, rfl, law_post rfl rfl rfl rfl rfl Try.underlying4 laidOut tys hW' hk.below⟩

theorem proved : Rows.RosterJudgesSaid :=
  OpenClaim.holds_of_wide 3 Try.f3 rfl rfl rfl rfl rfl rfl rfl ⟨rfl, rfl, rfl, rfl, rfl⟩ rfl rfl rfl rfl rfl (by kernel_rfl) Try.func3 (by kernel_rfl)
    (of_decide_eq_true (by kernel_rfl)) (by unfold Func.isWrapper; first | (rw [if_pos (by decide +kernel)]; kernel_rfl) | (rw [if_neg (by decide +kernel)]; exact ⟨rfl, rfl⟩))
    (fun os started H enc _ => lifted os started H enc)

#print axioms proved
end Go.Proofs.Ytcfhifbmjjhhdaa.RosterJudges
