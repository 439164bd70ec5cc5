/-
  ClockShares: for every input the law returns true, and the input reads as it did. No condition.
-/
import Derived.Test.YtnjlojicebcikaaGreatRows
import Derived.Test.YtnjlojicebcikaaGreatClockSharesW5
import Derived.Test.YtnjlojicebcikaaGreatClockSharesCalZone2
import Derived.Test.YtnjlojicebcikaaGreatClockSharesCalBase
import Derived.Test.YtnjlojicebcikaaGreatClockSharesCalDays
import Derived.Test.YtnjlojicebcikaaGreatClockSharesCalIter
import Derived.Test.YtnjlojicebcikaaGreatClockSharesCalApart
import Derived.Test.YtnjlojicebcikaaGreatClockSharesCalCount
import Derived.Test.YtnjlojicebcikaaGreatClockSharesCalWorked
import Derived.Test.YtnjlojicebcikaaGreatClockSharesClkPieces
import Derived.Test.YtnjlojicebcikaaGreatClockSharesClkMeter
import Derived.Test.YtnjlojicebcikaaGreatClockSharesClkFault
import Derived.Test.YtnjlojicebcikaaGreatClockSharesClkElapsed
import Derived.Test.YtnjlojicebcikaaGreatClockSharesClkState
import Derived.Test.YtnjlojicebcikaaGreatClockSharesRngBase
import Derived.Test.YtnjlojicebcikaaGreatClockSharesSharesIns
import Derived.Test.YtnjlojicebcikaaGreatClockSharesClockShares
import Derived.Test.YtnjlojicebcikaaGreatGf
namespace Go.Proofs.YtnjlojicebcikaaGreat.ClockShares
open Go Go.ChangeShapes Go.WideShapes Go.ChangeAt Go.RowKit Go.Gw Go.Pu Go.Proofs.YtnjlojicebcikaaGreat.M Go.Proofs.YtnjlojicebcikaaGreat.W
set_option linter.unusedVariables false
set_option linter.unusedSimpArgs false

theorem own : ownKnob Tryz.prog.godebug = none := by kernel_rfl
theorem laidOut : laidOutB Tryz.prog = true := by kernel_rfl
theorem tys : (Tryz.f3.params.toList.all fun t => Tryz.prog.readableRec t && decide (t < Tryz.prog.types.size)) = true := by kernel_rfl
theorem cells23 : Tryz.prog.cellsOf 23 = 1 := by kernel_rfl
theorem cells66 : Tryz.prog.cellsOf 66 = 4 := by kernel_rfl
theorem cells64 : Tryz.prog.cellsOf 64 = 1 := by kernel_rfl
theorem cells88 : Tryz.prog.cellsOf 88 = 2 := by kernel_rfl
theorem cells63 : Tryz.prog.cellsOf 63 = 1 := by kernel_rfl
theorem cells118 : Tryz.prog.cellsOf 118 = 3 := by kernel_rfl
theorem cells62 : Tryz.prog.cellsOf 62 = 2 := by kernel_rfl
theorem cells60 : Tryz.prog.cellsOf 60 = 1 := by kernel_rfl
theorem cells116 : Tryz.prog.cellsOf 116 = 2 := by kernel_rfl
theorem cells22 : Tryz.prog.cellsOf 22 = 1 := by kernel_rfl
theorem cells39 : Tryz.prog.cellsOf 39 = 7 := by kernel_rfl
theorem cells37 : Tryz.prog.cellsOf 37 = 1 := by kernel_rfl
theorem cells70 : Tryz.prog.cellsOf 70 = 3 := by kernel_rfl
theorem cells3 : Tryz.prog.cellsOf 3 = 1 := by kernel_rfl
theorem o3 : Opn Tryz.prog 3 Int := Opn_int Tryz.underlying3
theorem o70 : Opn Tryz.prog 70 level_Piece := Opn_struct (β := Int × Int × Int) (fun (x : level_Piece) => (x.from_, x.to_, x.calendar)) (fun y => (⟨y.1, y.2.1, y.2.2⟩ : level_Piece)) (fun _ => rfl) Tryz.underlying70 cells70 (OpnL_cons rfl cells3 o3 (OpnL_cons rfl cells3 o3 (OpnL_one rfl cells3 o3)))
theorem o37 : Opn Tryz.prog 37 (List level_Piece) := Opn_slice Tryz.underlying37 o70 cells70 (by decide)
theorem o39 : Opn Tryz.prog 39 level_Clock := Opn_struct (β := Int × Int × Int × Int × Int × Int × (List level_Piece)) (fun (x : level_Clock) => (x.kind, x.level, x.minutes, x.start, x.stop, x.end_, x.pieces)) (fun y => (⟨y.1, y.2.1, y.2.2.1, y.2.2.2.1, y.2.2.2.2.1, y.2.2.2.2.2.1, y.2.2.2.2.2.2⟩ : level_Clock)) (fun _ => rfl) Tryz.underlying39 cells39 (OpnL_cons rfl cells3 o3 (OpnL_cons rfl cells3 o3 (OpnL_cons rfl cells3 o3 (OpnL_cons rfl cells3 o3 (OpnL_cons rfl cells3 o3 (OpnL_cons rfl cells3 o3 (OpnL_one rfl cells37 o37)))))))
theorem o22 : Opn Tryz.prog 22 (List level_Clock) := Opn_slice Tryz.underlying22 o39 cells39 (by decide)
theorem o116 : Opn Tryz.prog 116 cal_Change := Opn_struct (β := Int × Int) (fun (x : cal_Change) => (x.at_, x.offset)) (fun y => (⟨y.1, y.2⟩ : cal_Change)) (fun _ => rfl) Tryz.underlying116 cells116 (OpnL_cons rfl cells3 o3 (OpnL_one rfl cells3 o3))
theorem o60 : Opn Tryz.prog 60 (List cal_Change) := Opn_slice Tryz.underlying60 o116 cells116 (by decide)
theorem o62 : Opn Tryz.prog 62 cal_Zone := Opn_struct (β := Int × (List cal_Change)) (fun (x : cal_Zone) => (x.offset, x.changes)) (fun y => (⟨y.1, y.2⟩ : cal_Zone)) (fun _ => rfl) Tryz.underlying62 cells62 (OpnL_cons rfl cells3 o3 (OpnL_one rfl cells60 o60))
theorem o118 : Opn Tryz.prog 118 cal_Shift := Opn_struct (β := Int × Int × Int) (fun (x : cal_Shift) => (x.day, x.from_, x.to_)) (fun y => (⟨y.1, y.2.1, y.2.2⟩ : cal_Shift)) (fun _ => rfl) Tryz.underlying118 cells118 (OpnL_cons rfl cells3 o3 (OpnL_cons rfl cells3 o3 (OpnL_one rfl cells3 o3)))
theorem o63 : Opn Tryz.prog 63 (List cal_Shift) := Opn_slice Tryz.underlying63 o118 cells118 (by decide)
theorem o88 : Opn Tryz.prog 88 cal_Special := Opn_struct (β := Int × (List cal_Shift)) (fun (x : cal_Special) => (x.day, x.shifts)) (fun y => (⟨y.1, y.2⟩ : cal_Special)) (fun _ => rfl) Tryz.underlying88 cells88 (OpnL_cons rfl cells3 o3 (OpnL_one rfl cells63 o63))
theorem o64 : Opn Tryz.prog 64 (List cal_Special) := Opn_slice Tryz.underlying64 o88 cells88 (by decide)
theorem o66 : Opn Tryz.prog 66 cal_Calendar := Opn_struct (β := cal_Zone × (List cal_Shift) × (List cal_Special)) (fun (x : cal_Calendar) => (x.zone, x.week, x.specials)) (fun y => (⟨y.1, y.2.1, y.2.2⟩ : cal_Calendar)) (fun _ => rfl) Tryz.underlying66 cells66 (OpnL_cons rfl cells62 o62 (OpnL_cons rfl cells63 o63 (OpnL_one rfl cells64 o64)))
theorem o23 : Opn Tryz.prog 23 (List cal_Calendar) := Opn_slice Tryz.underlying23 o66 cells66 (by decide)

set_option maxRecDepth 100000 in
theorem lifted (os : Os) (started : os.Started) (H : Type) (enc : TypeId × Value → H) :
    ReturnsInHanded {} Tryz.checked os 3 .any (Rows.clockSharesSpec.pre6 enc Tryz.prog Tryz.f3 Rows.clockSharesRow.domain false) (Rows.clockSharesSpec.post enc Tryz.prog Tryz.f3 false true false false) := by
  refine returnsInHanded_of_change (C := Tryz.checked) own started (by kernel_rfl) Tryz.func3
    (ChangeSpec.witness6 (enc := enc) (C := Tryz.checked) false ⟨#[], #[.slice none 0 0, .slice none 0 0, .int .i64 0, .int .i64 0], []⟩ 8 (by kernel_rfl) (by kernel_rfl) (by kernel_rfl) (by kernel_rfl)) ?_
  intro W base args ds gs before hval0 hW hcnd _
  have hval : ∀ (j : Nat) t v, Tryz.f3.params[j]? = some t → args[j]? = some v → Value.okWide Tryz.prog W .any base t v := hval0
  have hgs : gs = [] := by
    obtain ⟨p, q, _, hV, _⟩ := hW
    cases gs with
    | nil => rfl
    | cons g r => exact hV.elim
  subst hgs
  have hW' := hW
  obtain ⟨p, q, hA0, hV, rfl, hfz, hnd⟩ := hW
  have hA : DataW.TrodAll enc Tryz.prog W 0 (fun _ => true) true Tryz.f3.params.toList args.toList ds p := hA0
  rw [Tryz.params3] at hA hval
  obtain ⟨v0, vs0, d0, ds0, p0, q0, hargs, rfl, rfl, h0, r0⟩ := trodAll_cons hA
  obtain ⟨v1, vs1, d1, ds1, p1, q1, rfl, rfl, rfl, h1, r1⟩ := trodAll_cons r0
  obtain ⟨v2, vs2, d2, ds2, p2, q2, rfl, rfl, rfl, h2, r2⟩ := trodAll_cons r1
  obtain ⟨v3, vs3, d3, ds3, p3, q3, rfl, rfl, rfl, h3, r3⟩ := trodAll_cons r2
  obtain ⟨rfl, rfl, rfl⟩ := trodAll_nil r3
  obtain rfl : args = #[v0, v1, v2, v3] := by cases args; simp_all
  obtain ⟨x0, g0, wf0⟩ := arg_slice o22 Tryz.underlying22 (hval 0 22 v0 rfl rfl) h0
  obtain ⟨x1, g1, wf1⟩ := arg_slice o23 Tryz.underlying23 (hval 1 23 v1 rfl rfl) h1
  obtain ⟨x2, rfl, wf2⟩ := arg_int Tryz.underlying3 (hval 2 3 v2 rfl rfl) h2
  obtain ⟨x3, rfl, wf3⟩ := arg_int Tryz.underlying3 (hval 3 3 v3 rfl rfl) h3
  clear hA0 hA hval0
  refine Calls.mono (portlaw2_ClockShares_c (Dw := True) W (fun _ _ => trivial) x0 v0 g0 x1 v1 g1 x2 x3 (shares_true x0 x1 x2 x3)) ?_
  rintro e W' ⟨v, rfl, rfl, hk⟩
  exact ⟨_, rfl, law_post rfl rfl rfl rfl rfl Tryz.underlying4 laidOut tys hW' hk.below⟩

theorem proved : Rows.ClockSharesSaid :=
  OpenClaim.holds_of_wide 3 Tryz.f3 rfl rfl rfl rfl rfl rfl rfl ⟨rfl, rfl, rfl, rfl, rfl⟩ rfl rfl rfl rfl rfl (by kernel_rfl) Tryz.func3 (by kernel_rfl)
    (of_decide_eq_true (by kernel_rfl)) (by unfold Func.isWrapper; first | (rw [if_pos (by decide +kernel)]; kernel_rfl) | (rw [if_neg (by decide +kernel)]; exact ⟨rfl, rfl⟩))
    (fun os started H enc _ => lifted os started H enc)

#print axioms proved
end Go.Proofs.YtnjlojicebcikaaGreat.ClockShares
