import Derived.Test.YtabkhhpkibbheaaRows
import Derived.Test.YtabkhhpkibbheaaClockRanksW7
import Derived.Test.YtabkhhpkibbheaaClockRanksCalZone2
import Derived.Test.YtabkhhpkibbheaaClockRanksCalBase
import Derived.Test.YtabkhhpkibbheaaClockRanksCalDays
import Derived.Test.YtabkhhpkibbheaaClockRanksCalIter
import Derived.Test.YtabkhhpkibbheaaClockRanksCalApart
import Derived.Test.YtabkhhpkibbheaaClockRanksCalCount
import Derived.Test.YtabkhhpkibbheaaClockRanksCalWorked
import Derived.Test.YtabkhhpkibbheaaClockRanksCalAdd
import Derived.Test.YtabkhhpkibbheaaClockRanksClkX
import Derived.Test.YtabkhhpkibbheaaClockRanksClkMeter
import Derived.Test.YtabkhhpkibbheaaClockRanksClkFirst
import Derived.Test.YtabkhhpkibbheaaClockRanksClkRDue
import Derived.Test.YtabkhhpkibbheaaClockRanksClkFault
import Derived.Test.YtabkhhpkibbheaaClockRanksClkRuns
import Derived.Test.YtabkhhpkibbheaaClockRanksClkElapsed
import Derived.Test.YtabkhhpkibbheaaClockRanksCmpBaseB
import Derived.Test.YtabkhhpkibbheaaClockRanksRngBase
import Derived.Test.YtabkhhpkibbheaaClockRanksStbX
import Derived.Test.YtabkhhpkibbheaaClockRanksClockRanks
import Derived.Test.YtabkhhpkibbheaaGf
namespace Go.Proofs.Ytabkhhpkibbheaa.ClockRanks
open Go Go.ChangeShapes Go.WideShapes Go.ChangeAt Go.RowKit Go.Gw Go.Pu Go.Proofs.Ytabkhhpkibbheaa.M Go.Proofs.Ytabkhhpkibbheaa.W
set_option linter.unusedVariables false
set_option linter.unusedSimpArgs false
theorem own : ownKnob Try.prog.godebug = none := by kernel_rfl
theorem laidOut : laidOutB Try.prog = true := by kernel_rfl
theorem tys : (Try.f3.params.toList.all fun t => Try.prog.readableRec t && decide (t < Try.prog.types.size)) = true := by kernel_rfl
theorem cells58 : Try.prog.cellsOf 58 = 4 := by kernel_rfl
theorem cells56 : Try.prog.cellsOf 56 = 1 := by kernel_rfl
theorem cells82 : Try.prog.cellsOf 82 = 2 := by kernel_rfl
theorem cells55 : Try.prog.cellsOf 55 = 1 := by kernel_rfl
theorem cells106 : Try.prog.cellsOf 106 = 3 := by kernel_rfl
theorem cells54 : Try.prog.cellsOf 54 = 2 := by kernel_rfl
theorem cells52 : Try.prog.cellsOf 52 = 1 := by kernel_rfl
theorem cells104 : Try.prog.cellsOf 104 = 2 := by kernel_rfl
theorem cells37 : Try.prog.cellsOf 37 = 7 := by kernel_rfl
theorem cells35 : Try.prog.cellsOf 35 = 1 := by kernel_rfl
theorem cells62 : Try.prog.cellsOf 62 = 3 := by kernel_rfl
theorem cells3 : Try.prog.cellsOf 3 = 1 := by kernel_rfl
theorem o3 : Opn Try.prog 3 Int := Opn_int Try.underlying3
theorem o62 : Opn Try.prog 62 level_Piece := Opn_struct (β := Int × Int × Int) (fun (x : level_Piece) => (x.from_, x.to_, x.calendar)) (fun y => (⟨y.1, y.2.1, y.2.2⟩ : level_Piece)) (fun _ => rfl) Try.underlying62 cells62 (OpnL_cons rfl cells3 o3 (OpnL_cons rfl cells3 o3 (OpnL_one rfl cells3 o3)))
theorem o35 : Opn Try.prog 35 (List level_Piece) := Opn_slice Try.underlying35 o62 cells62 (by decide)
theorem o37 : Opn Try.prog 37 level_Clock := Opn_struct (β := Int × Int × Int × Int × Int × Int × (List level_Piece)) (fun (x : level_Clock) => (x.kind, x.level, x.minutes, x.start, x.stop, x.end_, x.pieces)) (fun y => (⟨y.1, y.2.1, y.2.2.1, y.2.2.2.1, y.2.2.2.2.1, y.2.2.2.2.2.1, y.2.2.2.2.2.2⟩ : level_Clock)) (fun _ => rfl) Try.underlying37 cells37 (OpnL_cons rfl cells3 o3 (OpnL_cons rfl cells3 o3 (OpnL_cons rfl cells3 o3 (OpnL_cons rfl cells3 o3 (OpnL_cons rfl cells3 o3 (OpnL_cons rfl cells3 o3 (OpnL_one rfl cells35 o35)))))))
theorem o22 : Opn Try.prog 22 (List level_Clock) := Opn_slice Try.underlying22 o37 cells37 (by decide)
theorem o104 : Opn Try.prog 104 cal_Change := Opn_struct (β := Int × Int) (fun (x : cal_Change) => (x.at_, x.offset)) (fun y => (⟨y.1, y.2⟩ : cal_Change)) (fun _ => rfl) Try.underlying104 cells104 (OpnL_cons rfl cells3 o3 (OpnL_one rfl cells3 o3))
theorem o52 : Opn Try.prog 52 (List cal_Change) := Opn_slice Try.underlying52 o104 cells104 (by decide)
theorem o54 : Opn Try.prog 54 cal_Zone := Opn_struct (β := Int × (List cal_Change)) (fun (x : cal_Zone) => (x.offset, x.changes)) (fun y => (⟨y.1, y.2⟩ : cal_Zone)) (fun _ => rfl) Try.underlying54 cells54 (OpnL_cons rfl cells3 o3 (OpnL_one rfl cells52 o52))
theorem o106 : Opn Try.prog 106 cal_Shift := Opn_struct (β := Int × Int × Int) (fun (x : cal_Shift) => (x.day, x.from_, x.to_)) (fun y => (⟨y.1, y.2.1, y.2.2⟩ : cal_Shift)) (fun _ => rfl) Try.underlying106 cells106 (OpnL_cons rfl cells3 o3 (OpnL_cons rfl cells3 o3 (OpnL_one rfl cells3 o3)))
theorem o55 : Opn Try.prog 55 (List cal_Shift) := Opn_slice Try.underlying55 o106 cells106 (by decide)
theorem o82 : Opn Try.prog 82 cal_Special := Opn_struct (β := Int × (List cal_Shift)) (fun (x : cal_Special) => (x.day, x.shifts)) (fun y => (⟨y.1, y.2⟩ : cal_Special)) (fun _ => rfl) Try.underlying82 cells82 (OpnL_cons rfl cells3 o3 (OpnL_one rfl cells55 o55))
theorem o56 : Opn Try.prog 56 (List cal_Special) := Opn_slice Try.underlying56 o82 cells82 (by decide)
theorem o58 : Opn Try.prog 58 cal_Calendar := Opn_struct (β := cal_Zone × (List cal_Shift) × (List cal_Special)) (fun (x : cal_Calendar) => (x.zone, x.week, x.specials)) (fun y => (⟨y.1, y.2.1, y.2.2⟩ : cal_Calendar)) (fun _ => rfl) Try.underlying58 cells58 (OpnL_cons rfl cells54 o54 (OpnL_cons rfl cells55 o55 (OpnL_one rfl cells56 o56)))
theorem o23 : Opn Try.prog 23 (List cal_Calendar) := Opn_slice Try.underlying23 o58 cells58 (by decide)
set_option maxRecDepth 100000 in
theorem lifted (os : Os) (started : os.Started) (H : Type) (enc : TypeId × Value → H) :
  ReturnsInHanded {} Try.checked os 3 .any (Rows.clockRanksSpec.pre6 enc Try.prog Try.f3 Rows.clockRanksRow.domain false) (Rows.clockRanksSpec.post enc Try.prog Try.f3 false true false false) := by
 refine returnsInHanded_of_change (C := Try.checked) own started (by kernel_rfl) Try.func3
  (ChangeSpec.witness6 (enc := enc) (C := Try.checked) false ⟨#[], #[.slice none 0 0, .slice none 0 0, .int .i64 0], []⟩ 8 (by kernel_rfl) (by kernel_rfl) (by kernel_rfl) (by kernel_rfl)) ?_
 intro W base args ds gs before hval0 hW hcnd _
 have hval : ∀ (j : Nat) t v, Try.f3.params[j]? = some t → args[j]? = some v → Value.okWide Try.prog W .any base t v := hval0
 have hgs : gs = [] := by
  obtain ⟨p, q, _, hV, _⟩ := hW
  cases gs with
  | nil => rfl
  | cons g r => exact hV.elim
 subst hgs
 have hW' := hW
 obtain ⟨p, q, hA0, hV, rfl, hfz, hnd⟩ := hW
 have hA : DataW.TrodAll enc Try.prog W 0 (fun _ => true) true Try.f3.params.toList args.toList ds p := hA0
 rw [Try.params3] at hA hval
 obtain ⟨v0, vs0, d0, ds0, p0, q0, hargs, rfl, rfl, h0, r0⟩ := trodAll_cons hA
 obtain ⟨v1, vs1, d1, ds1, p1, q1, rfl, rfl, rfl, h1, r1⟩ := trodAll_cons r0
 obtain ⟨v2, vs2, d2, ds2, p2, q2, rfl, rfl, rfl, h2, r2⟩ := trodAll_cons r1
 obtain ⟨rfl, rfl, rfl⟩ := trodAll_nil r2
 obtain rfl : args = #[v0, v1, v2] := by cases args; simp_all
 obtain ⟨x0, g0, wf0⟩ := arg_slice o22 Try.underlying22 (hval 0 22 v0 rfl rfl) h0
 obtain ⟨x1, g1, wf1⟩ := arg_slice o23 Try.underlying23 (hval 1 23 v1 rfl rfl) h1
 obtain ⟨x2, rfl, wf2⟩ := arg_int Try.underlying3 (hval 2 3 v2 rfl rfl) h2
 clear hA0 hA hval0
 refine Calls.mono (portlaw2_ClockRanks_c (Dw := True) W (fun _ _ => trivial) x0 v0 g0 x1 v1 g1 x2 (ranks_true x0 x1 x2)) ?_
 rintro e W' ⟨v, rfl, rfl, hk⟩
 exact ⟨_, rfl, law_post rfl rfl rfl rfl rfl Try.underlying4 laidOut tys hW' hk.below⟩
theorem proved : Rows.ClockRanksSaid :=
 OpenClaim.holds_of_wide 3 Try.f3 rfl rfl rfl rfl rfl rfl rfl ⟨rfl, rfl, rfl, rfl, rfl⟩ rfl rfl rfl rfl rfl (by kernel_rfl) Try.func3 (by kernel_rfl)
  (of_decide_eq_true (by kernel_rfl)) (by unfold Func.isWrapper; first | (rw [if_pos (by decide +kernel)]; kernel_rfl) | (rw [if_neg (by decide +kernel)]; exact ⟨rfl, rfl⟩))
  (fun os started H enc _ => lifted os started H enc)
#print axioms proved
end Go.Proofs.Ytabkhhpkibbheaa.ClockRanks
