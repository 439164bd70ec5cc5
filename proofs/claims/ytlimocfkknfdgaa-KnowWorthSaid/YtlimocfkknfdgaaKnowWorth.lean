/-
  KnowWorth: for every input the law returns true, and the input reads as it did. No condition.
-/
import Derived.Test.YtlimocfkknfdgaaRows
import Derived.Test.YtlimocfkknfdgaaKnowWorthW0
import Derived.Test.YtlimocfkknfdgaaKnowWorthKnowWorth
import Derived.Test.YtlimocfkknfdgaaFr
namespace Go.Proofs.Ytlimocfkknfdgaa.KnowWorth
open Go Go.ChangeShapes Go.WideShapes Go.ChangeAt Go.RowKit Go.Fw Go.Pu Go.Proofs.Ytlimocfkknfdgaa.M Go.Proofs.Ytlimocfkknfdgaa.W
set_option linter.unusedVariables false

theorem own : ownKnob Try.prog.godebug = none := by kernel_rfl
theorem laidOut : laidOutB Try.prog = true := by kernel_rfl
theorem tys : (Try.f3.params.toList.all fun t => Try.prog.readableRec t && decide (t < Try.prog.types.size)) = true := by kernel_rfl
theorem cells22 : Try.prog.cellsOf 22 = 1 := by kernel_rfl
theorem cells38 : Try.prog.cellsOf 38 = 3 := by kernel_rfl
theorem cells4 : Try.prog.cellsOf 4 = 1 := by kernel_rfl
theorem cells3 : Try.prog.cellsOf 3 = 1 := by kernel_rfl
theorem o3 : Opn Try.prog 3 Int := Opn_int Try.underlying3
theorem o4 : Opn Try.prog 4 Bool := Opn_bool Try.underlying4
theorem o38 : Opn Try.prog 38 know_Vote := Opn_struct (β := Int × Int × Bool) (fun (x : know_Vote) => (x.id, x.at_, x.good)) (fun y => (⟨y.1, y.2.1, y.2.2⟩ : know_Vote)) (fun _ => rfl) Try.underlying38 cells38 (OpnL_cons rfl cells3 o3 (OpnL_cons rfl cells3 o3 (OpnL_one rfl cells4 o4)))
theorem o22 : Opn Try.prog 22 (List know_Vote) := Opn_slice Try.underlying22 o38 cells38 (by decide)

set_option maxRecDepth 100000 in
theorem lifted (os : Os) (started : os.Started) (H : Type) (enc : TypeId × Value → H) :
    ReturnsInHanded {} Try.checked os 3 .any (Rows.knowWorthSpec.pre6 enc Try.prog Try.f3 Rows.knowWorthRow.domain false) (Rows.knowWorthSpec.post enc Try.prog Try.f3 false true false false) := by
  refine returnsInHanded_of_change (C := Try.checked) own started (by kernel_rfl) Try.func3
    (ChangeSpec.witness6 (enc := enc) (C := Try.checked) false ⟨#[], #[.slice none 0 0, .int .i64 0, .int .i64 0, .int .i64 0], []⟩ 8 (by kernel_rfl) (by kernel_rfl) (by kernel_rfl) (by kernel_rfl)) ?_
  intro W base args ds gs before hval0 hW hcnd _
  have hval : ∀ (j : Nat) t v, Try.f3.params[j]? = some t → args[j]? = some v → Value.okWide Try.prog W .any base t v := hval0
  have hgs : gs = [] := by
    obtain ⟨p, q, _, hV, _⟩ := hW
    cases gs with
    | nil => rfl
    | cons g r => exact hV.elim
  subst hgs
  have hW' := hW
  obtain ⟨p, q, hA0, hV, rfl, hfz, hnd⟩ := hW
  have hA : DataW.TrodAll enc Try.prog W 0 (fun _ => true) true Try.f3.params.toList args.toList ds p := hA0
  rw [Try.params3] at hA hval
  obtain ⟨v0, vs0, d0, ds0, p0, q0, hargs, rfl, rfl, h0, r0⟩ := trodAll_cons hA
  obtain ⟨v1, vs1, d1, ds1, p1, q1, rfl, rfl, rfl, h1, r1⟩ := trodAll_cons r0
  obtain ⟨v2, vs2, d2, ds2, p2, q2, rfl, rfl, rfl, h2, r2⟩ := trodAll_cons r1
  obtain ⟨v3, vs3, d3, ds3, p3, q3, rfl, rfl, rfl, h3, r3⟩ := trodAll_cons r2
  obtain ⟨rfl, rfl, rfl⟩ := trodAll_nil r3
  obtain rfl : args = #[v0, v1, v2, v3] := by cases args; simp_all
  obtain ⟨x0, g0, wf0⟩ := arg_slice o22 Try.underlying22 (hval 0 22 v0 rfl rfl) h0
  obtain ⟨x1, rfl, wf1⟩ := arg_int Try.underlying3 (hval 1 3 v1 rfl rfl) h1
  obtain ⟨x2, rfl, wf2⟩ := arg_int Try.underlying3 (hval 2 3 v2 rfl rfl) h2
  obtain ⟨x3, rfl, wf3⟩ := arg_int Try.underlying3 (hval 3 3 v3 rfl rfl) h3
  clear hA0 hA hval0
  refine Calls.mono (portlaw2_KnowWorth_c W (fun _ _ => trivial) x0 v0 g0 x1 x2 x3 (worth_true x0 x1 x2 x3)) ?_
  rintro e W' ⟨v, rfl, rfl, hk⟩
  exact ⟨_, rfl, law_post rfl rfl rfl rfl rfl Try.underlying4 laidOut tys hW' hk⟩

theorem proved : Rows.KnowWorthSaid :=
  OpenClaim.holds_of_wide 3 Try.f3 rfl rfl rfl rfl rfl rfl rfl ⟨rfl, rfl, rfl, rfl, rfl⟩ rfl rfl rfl rfl rfl (by kernel_rfl) Try.func3 (by kernel_rfl)
    (of_decide_eq_true (by kernel_rfl)) (by unfold Func.isWrapper; first | (rw [if_pos (by decide +kernel)]; kernel_rfl) | (rw [if_neg (by decide +kernel)]; exact ⟨rfl, rfl⟩))
    (fun os started H enc _ => lifted os started H enc)
#print axioms proved
end Go.Proofs.Ytlimocfkknfdgaa.KnowWorth
