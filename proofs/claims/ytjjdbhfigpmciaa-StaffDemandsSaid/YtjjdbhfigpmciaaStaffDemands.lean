/-
  StaffDemands: for every input the law returns true, and the input reads as it did. No condition.
-/
import Derived.Test.YtjjdbhfigpmciaaRows
import Derived.Test.YtjjdbhfigpmciaaStaffDemandsW4
import Derived.Test.YtjjdbhfigpmciaaStaffDemandsBigNat
import Derived.Test.YtjjdbhfigpmciaaStaffDemandsBigNat2
import Derived.Test.YtjjdbhfigpmciaaStaffDemandsBigWh
import Derived.Test.YtjjdbhfigpmciaaStaffDemandsBigBy
import Derived.Test.YtjjdbhfigpmciaaStaffDemandsBigUp
import Derived.Test.YtjjdbhfigpmciaaStaffDemandsBigLen
import Derived.Test.YtjjdbhfigpmciaaStaffDemandsBigSub
import Derived.Test.YtjjdbhfigpmciaaStaffDemandsBigGuess
import Derived.Test.YtjjdbhfigpmciaaStaffDemandsBigDown
import Derived.Test.YtjjdbhfigpmciaaStaffDemandsBigKnuth
import Derived.Test.YtjjdbhfigpmciaaStaffDemandsBigRound
import Derived.Test.YtjjdbhfigpmciaaStaffDemandsBigMain
import Derived.Test.YtjjdbhfigpmciaaStaffDemandsBigLow
import Derived.Test.YtjjdbhfigpmciaaStaffDemandsBigWait
import Derived.Test.YtjjdbhfigpmciaaStaffDemandsBigKeep
import Derived.Test.YtjjdbhfigpmciaaStaffDemandsStaffDemands
import Derived.Test.YtjjdbhfigpmciaaGf
namespace Go.Proofs.Ytjjdbhfigpmciaa.StaffDemands
open Go Go.ChangeShapes Go.WideShapes Go.ChangeAt Go.RowKit Go.Gw Go.Pu Go.Proofs.Ytjjdbhfigpmciaa.M Go.Proofs.Ytjjdbhfigpmciaa.W
set_option linter.unusedVariables false
set_option linter.unusedSimpArgs false

theorem own : ownKnob Try.prog.godebug = none := by kernel_rfl
theorem laidOut : laidOutB Try.prog = true := by kernel_rfl
theorem tys : (Try.f4.params.toList.all fun t => Try.prog.readableRec t && decide (t < Try.prog.types.size)) = true := by kernel_rfl
theorem cells25 : Try.prog.cellsOf 25 = 4 := by kernel_rfl
theorem cells32 : Try.prog.cellsOf 32 = 1 := by kernel_rfl
theorem cells23 : Try.prog.cellsOf 23 = 3 := by kernel_rfl
theorem cells3 : Try.prog.cellsOf 3 = 1 := by kernel_rfl
theorem o3 : Opn Try.prog 3 Int := Opn_int Try.underlying3
theorem o23 : Opn Try.prog 23 staff_Load := Opn_struct (β := Int × Int × Int) (fun (x : staff_Load) => (x.calls, x.length, x.span)) (fun y => (⟨y.1, y.2.1, y.2.2⟩ : staff_Load)) (fun _ => rfl) Try.underlying23 cells23 (OpnL_cons rfl cells3 o3 (OpnL_cons rfl cells3 o3 (OpnL_one rfl cells3 o3)))
theorem o32 : Opn Try.prog 32 (List staff_Load) := Opn_slice Try.underlying32 o23 cells23 (by decide)
theorem o25 : Opn Try.prog 25 staff_Promise := Opn_struct (β := Int × Int × Int × Int) (fun (x : staff_Promise) => (x.share, x.of, x.wait, x.parts)) (fun y => (⟨y.1, y.2.1, y.2.2.1, y.2.2.2⟩ : staff_Promise)) (fun _ => rfl) Try.underlying25 cells25 (OpnL_cons rfl cells3 o3 (OpnL_cons rfl cells3 o3 (OpnL_cons rfl cells3 o3 (OpnL_one rfl cells3 o3))))

set_option maxRecDepth 100000 in
theorem lifted (os : Os) (started : os.Started) (H : Type) (enc : TypeId × Value → H) :
    ReturnsInHanded {} Try.checked os 4 .any (Rows.staffDemandsSpec.pre6 enc Try.prog Try.f4 Rows.staffDemandsRow.domain false) (Rows.staffDemandsSpec.post enc Try.prog Try.f4 false true false false) := by
  refine returnsInHanded_of_change (C := Try.checked) own started (by kernel_rfl) Try.func4
    (ChangeSpec.witness6 (enc := enc) (C := Try.checked) false ⟨#[], #[.slice none 0 0, .agg #[.int .i64 0, .int .i64 0, .int .i64 0, .int .i64 0]], []⟩ 8 (by kernel_rfl) (by kernel_rfl) (by kernel_rfl) (by kernel_rfl)) ?_
  intro W base args ds gs before hval0 hW hcnd _
  have hval : ∀ (j : Nat) t v, Try.f4.params[j]? = some t → args[j]? = some v → Value.okWide Try.prog W .any base t v := hval0
  have hgs : gs = [] := by
    obtain ⟨p, q, _, hV, _⟩ := hW
    cases gs with
    | nil => rfl
    | cons g r => exact hV.elim
  subst hgs
  have hW' := hW
  obtain ⟨p, q, hA0, hV, rfl, hfz, hnd⟩ := hW
  have hA : DataW.TrodAll enc Try.prog W 0 (fun _ => true) true Try.f4.params.toList args.toList ds p := hA0
  rw [Try.params4] at hA hval
  obtain ⟨v0, vs0, d0, ds0, p0, q0, hargs, rfl, rfl, h0, r0⟩ := trodAll_cons hA
  obtain ⟨v1, vs1, d1, ds1, p1, q1, rfl, rfl, rfl, h1, r1⟩ := trodAll_cons r0
  obtain ⟨rfl, rfl, rfl⟩ := trodAll_nil r1
  obtain rfl : args = #[v0, v1] := by cases args; simp_all
  obtain ⟨x0, g0, wf0⟩ := arg_slice o32 Try.underlying32 (hval 0 32 v0 rfl rfl) h0
  obtain ⟨x1, cs1, rfl, hr1, wf1⟩ := arg_struct o25 Try.underlying25 (hval 1 25 v1 rfl rfl) h1
  obtain ⟨_, _, rfl, rfl, ⟨_, _, rfl, rfl, ⟨_, _, rfl, rfl, rfl⟩⟩⟩ := hr1
  clear hA0 hA hval0
  refine Calls.mono (portlaw2_StaffDemands_c W (fun _ _ => trivial) x0 v0 g0 x1 (demands_true x0 x1)) ?_
  rintro e W' ⟨v, rfl, rfl, hk⟩
  exact ⟨_, rfl, law_post rfl rfl rfl rfl rfl Try.underlying4 laidOut tys hW' hk⟩

theorem proved : Rows.StaffDemandsSaid :=
  OpenClaim.holds_of_wide 4 Try.f4 rfl rfl rfl rfl rfl rfl rfl ⟨rfl, rfl, rfl, rfl, rfl⟩ rfl rfl rfl rfl rfl (by kernel_rfl) Try.func4 (by kernel_rfl)
    (of_decide_eq_true (by kernel_rfl)) (by unfold Func.isWrapper; first | (rw [if_pos (by decide +kernel)]; kernel_rfl) | (rw [if_neg (by decide +kernel)]; exact ⟨rfl, rfl⟩))
    (fun os started H enc _ => lifted os started H enc)
#print axioms proved
end Go.Proofs.Ytjjdbhfigpmciaa.StaffDemands
