/-
  RosterGives: for every input the law returns true, and the input reads as it did. No condition.
-/
import Derived.Test.YtklcifchnpnpnaaRows
import Derived.Test.YtklcifchnpnpnaaRosterGivesW2
import Derived.Test.YtklcifchnpnpnaaRosterGivesRosBase
import Derived.Test.YtklcifchnpnpnaaRosterGivesRosterGives
import Derived.Test.YtklcifchnpnpnaaGf
namespace Go.Proofs.Ytklcifchnpnpnaa.RosterGives
open Go Go.ChangeShapes Go.WideShapes Go.ChangeAt Go.RowKit Go.Gw Go.Pu Go.Proofs.Ytklcifchnpnpnaa.M Go.Proofs.Ytklcifchnpnpnaa.W
set_option linter.unusedVariables false
set_option linter.unusedSimpArgs false

theorem own : ownKnob Try.prog.godebug = none := by kernel_rfl
theorem laidOut : laidOutB Try.prog = true := by kernel_rfl
theorem tys : (Try.f4.params.toList.all fun t => Try.prog.readableRec t && decide (t < Try.prog.types.size)) = true := by kernel_rfl
theorem cells31 : Try.prog.cellsOf 31 = 3 := by kernel_rfl
theorem cells23 : Try.prog.cellsOf 23 = 1 := by kernel_rfl
theorem cells29 : Try.prog.cellsOf 29 = 1 := by kernel_rfl
theorem cells52 : Try.prog.cellsOf 52 = 2 := by kernel_rfl
theorem cells3 : Try.prog.cellsOf 3 = 1 := by kernel_rfl
theorem o3 : Opn Try.prog 3 Int := Opn_int Try.underlying3
theorem o52 : Opn Try.prog 52 staff_Form := Opn_struct (β := Int × Int) (fun (x : staff_Form) => (x.from_, x.slots)) (fun y => (⟨y.1, y.2⟩ : staff_Form)) (fun _ => rfl) Try.underlying52 cells52 (OpnL_cons rfl cells3 o3 (OpnL_one rfl cells3 o3))
theorem o29 : Opn Try.prog 29 (List staff_Form) := Opn_slice Try.underlying29 o52 cells52 (by decide)
theorem o23 : Opn Try.prog 23 (List Int) := Opn_slice Try.underlying23 o3 cells3 (by decide)
theorem o31 : Opn Try.prog 31 staff_Rules := Opn_struct (β := Int × Int × Int) (fun (x : staff_Rules) => (x.people, x.rest_, x.most)) (fun y => (⟨y.1, y.2.1, y.2.2⟩ : staff_Rules)) (fun _ => rfl) Try.underlying31 cells31 (OpnL_cons rfl cells3 o3 (OpnL_cons rfl cells3 o3 (OpnL_one rfl cells3 o3)))

set_option maxRecDepth 100000 in
theorem lifted (os : Os) (started : os.Started) (H : Type) (enc : TypeId × Value → H) :
    ReturnsInHanded {} Try.checked os 4 .any (Rows.rosterGivesSpec.pre6 enc Try.prog Try.f4 Rows.rosterGivesRow.domain false) (Rows.rosterGivesSpec.post enc Try.prog Try.f4 false true false false) := by
  refine returnsInHanded_of_change (C := Try.checked) own started (by kernel_rfl) Try.func4
    (ChangeSpec.witness6 (enc := enc) (C := Try.checked) false ⟨#[], #[.slice none 0 0, .slice none 0 0, .agg #[.int .i64 0, .int .i64 0, .int .i64 0]], []⟩ 8 (by kernel_rfl) (by kernel_rfl) (by kernel_rfl) (by kernel_rfl)) ?_
  intro W base args ds gs before hval0 hW hcnd _
  have hval : ∀ (j : Nat) t v, Try.f4.params[j]? = some t → args[j]? = some v → Value.okWide Try.prog W .any base t v := hval0
  have hgs : gs = [] := by
    obtain ⟨p, q, _, hV, _⟩ := hW
    cases gs with
    | nil => rfl
    | cons g r => exact hV.elim
  subst hgs
  have hW' := hW
  obtain ⟨p, q, hA0, hV, rfl, hfz, hnd⟩ := hW
  have hA : DataW.TrodAll enc Try.prog W 0 (fun _ => true) true Try.f4.params.toList args.toList ds p := hA0
  rw [Try.params4] at hA hval
  obtain ⟨v0, vs0, d0, ds0, p0, q0, hargs, rfl, rfl, h0, r0⟩ := trodAll_cons hA
  obtain ⟨v1, vs1, d1, ds1, p1, q1, rfl, rfl, rfl, h1, r1⟩ := trodAll_cons r0
  obtain ⟨v2, vs2, d2, ds2, p2, q2, rfl, rfl, rfl, h2, r2⟩ := trodAll_cons r1
  obtain ⟨rfl, rfl, rfl⟩ := trodAll_nil r2
  obtain rfl : args = #[v0, v1, v2] := by cases args; simp_all
  obtain ⟨x0, g0, wf0⟩ := arg_slice o29 Try.underlying29 (hval 0 29 v0 rfl rfl) h0
  obtain ⟨x1, g1, wf1⟩ := arg_slice o23 Try.underlying23 (hval 1 23 v1 rfl rfl) h1
  obtain ⟨x2, cs2, rfl, hr2, wf2⟩ := arg_struct o31 Try.underlying31 (hval 2 31 v2 rfl rfl) h2
  obtain ⟨_, _, rfl, rfl, ⟨_, _, rfl, rfl, rfl⟩⟩ := hr2
  clear hA0 hA hval0
  refine Calls.mono (portlaw2_RosterGives_c W (fun _ _ => trivial) x0 v0 g0 x1 v1 g1 x2 (gives_true x0 x1 x2)) ?_
  rintro e W' ⟨v, rfl, rfl, hk⟩
  exact ⟨_, rfl, law_post rfl rfl rfl rfl rfl Try.underlying4 laidOut tys hW' hk⟩

theorem proved : Rows.RosterGivesSaid :=
  OpenClaim.holds_of_wide 4 Try.f4 rfl rfl rfl rfl rfl rfl rfl ⟨rfl, rfl, rfl, rfl, rfl⟩ rfl rfl rfl rfl rfl (by kernel_rfl) Try.func4 (by kernel_rfl)
    (of_decide_eq_true (by kernel_rfl)) (by unfold Func.isWrapper; first | (rw [if_pos (by decide +kernel)]; kernel_rfl) | (rw [if_neg (by decide +kernel)]; exact ⟨rfl, rfl⟩))
    (fun os started H enc _ => lifted os started H enc)
#print axioms proved
end Go.Proofs.Ytklcifchnpnpnaa.RosterGives
