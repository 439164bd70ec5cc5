/-
  ClockExplains: for every input the law returns true, and the input reads as it did. No condition.
-/
import Derived.Test.YtpfoimbklbkcpaaRows
import Derived.Test.YtpfoimbklbkcpaaClockExplainsW4
import Derived.Test.YtpfoimbklbkcpaaClockExplainsCalZone2
import Derived.Test.YtpfoimbklbkcpaaClockExplainsCalBase
import Derived.Test.YtpfoimbklbkcpaaClockExplainsCalDays
import Derived.Test.YtpfoimbklbkcpaaClockExplainsCalIter
import Derived.Test.YtpfoimbklbkcpaaClockExplainsCalApart
import Derived.Test.YtpfoimbklbkcpaaClockExplainsCalCount
import Derived.Test.YtpfoimbklbkcpaaClockExplainsClkPieces
import Derived.Test.YtpfoimbklbkcpaaClockExplainsClkMeter
import Derived.Test.YtpfoimbklbkcpaaClockExplainsClkFault
import Derived.Test.YtpfoimbklbkcpaaClockExplainsClockExplains
import Derived.Test.YtpfoimbklbkcpaaGf
namespace Go.Proofs.Ytpfoimbklbkcpaa.ClockExplains
open Go Go.ChangeShapes Go.WideShapes Go.ChangeAt Go.RowKit Go.Gw Go.Pu Go.Proofs.Ytpfoimbklbkcpaa.M Go.Proofs.Ytpfoimbklbkcpaa.W
set_option linter.unusedVariables false
set_option linter.unusedSimpArgs false

theorem own : ownKnob Try.prog.godebug = none := by kernel_rfl
theorem laidOut : laidOutB Try.prog = true := by kernel_rfl
theorem tys : (Try.f7.params.toList.all fun t => Try.prog.readableRec t && decide (t < Try.prog.types.size)) = true := by kernel_rfl
theorem cells36 : Try.prog.cellsOf 36 = 1 := by kernel_rfl
theorem cells28 : Try.prog.cellsOf 28 = 4 := by kernel_rfl
theorem cells26 : Try.prog.cellsOf 26 = 1 := by kernel_rfl
theorem cells92 : Try.prog.cellsOf 92 = 2 := by kernel_rfl
theorem cells25 : Try.prog.cellsOf 25 = 1 := by kernel_rfl
theorem cells110 : Try.prog.cellsOf 110 = 3 := by kernel_rfl
theorem cells24 : Try.prog.cellsOf 24 = 2 := by kernel_rfl
theorem cells22 : Try.prog.cellsOf 22 = 1 := by kernel_rfl
theorem cells116 : Try.prog.cellsOf 116 = 2 := by kernel_rfl
theorem cells35 : Try.prog.cellsOf 35 = 7 := by kernel_rfl
theorem cells33 : Try.prog.cellsOf 33 = 1 := by kernel_rfl
theorem cells64 : Try.prog.cellsOf 64 = 3 := by kernel_rfl
theorem cells3 : Try.prog.cellsOf 3 = 1 := by kernel_rfl
theorem o3 : Opn Try.prog 3 Int := Opn_int Try.underlying3
theorem o64 : Opn Try.prog 64 level_Piece := Opn_struct (β := Int × Int × Int) (fun (x : level_Piece) => (x.from_, x.to_, x.calendar)) (fun y => (⟨y.1, y.2.1, y.2.2⟩ : level_Piece)) (fun _ => rfl) Try.underlying64 cells64 (OpnL_cons rfl cells3 o3 (OpnL_cons rfl cells3 o3 (OpnL_one rfl cells3 o3)))
theorem o33 : Opn Try.prog 33 (List level_Piece) := Opn_slice Try.underlying33 o64 cells64 (by decide)
theorem o35 : Opn Try.prog 35 level_Clock := Opn_struct (β := Int × Int × Int × Int × Int × Int × (List level_Piece)) (fun (x : level_Clock) => (x.kind, x.level, x.minutes, x.start, x.stop, x.end_, x.pieces)) (fun y => (⟨y.1, y.2.1, y.2.2.1, y.2.2.2.1, y.2.2.2.2.1, y.2.2.2.2.2.1, y.2.2.2.2.2.2⟩ : level_Clock)) (fun _ => rfl) Try.underlying35 cells35 (OpnL_cons rfl cells3 o3 (OpnL_cons rfl cells3 o3 (OpnL_cons rfl cells3 o3 (OpnL_cons rfl cells3 o3 (OpnL_cons rfl cells3 o3 (OpnL_cons rfl cells3 o3 (OpnL_one rfl cells33 o33)))))))
theorem o116 : Opn Try.prog 116 cal_Change := Opn_struct (β := Int × Int) (fun (x : cal_Change) => (x.at_, x.offset)) (fun y => (⟨y.1, y.2⟩ : cal_Change)) (fun _ => rfl) Try.underlying116 cells116 (OpnL_cons rfl cells3 o3 (OpnL_one rfl cells3 o3))
theorem o22 : Opn Try.prog 22 (List cal_Change) := Opn_slice Try.underlying22 o116 cells116 (by decide)
theorem o24 : Opn Try.prog 24 cal_Zone := Opn_struct (β := Int × (List cal_Change)) (fun (x : cal_Zone) => (x.offset, x.changes)) (fun y => (⟨y.1, y.2⟩ : cal_Zone)) (fun _ => rfl) Try.underlying24 cells24 (OpnL_cons rfl cells3 o3 (OpnL_one rfl cells22 o22))
theorem o110 : Opn Try.prog 110 cal_Shift := Opn_struct (β := Int × Int × Int) (fun (x : cal_Shift) => (x.day, x.from_, x.to_)) (fun y => (⟨y.1, y.2.1, y.2.2⟩ : cal_Shift)) (fun _ => rfl) Try.underlying110 cells110 (OpnL_cons rfl cells3 o3 (OpnL_cons rfl cells3 o3 (OpnL_one rfl cells3 o3)))
theorem o25 : Opn Try.prog 25 (List cal_Shift) := Opn_slice Try.underlying25 o110 cells110 (by decide)
theorem o92 : Opn Try.prog 92 cal_Special := Opn_struct (β := Int × (List cal_Shift)) (fun (x : cal_Special) => (x.day, x.shifts)) (fun y => (⟨y.1, y.2⟩ : cal_Special)) (fun _ => rfl) Try.underlying92 cells92 (OpnL_cons rfl cells3 o3 (OpnL_one rfl cells25 o25))
theorem o26 : Opn Try.prog 26 (List cal_Special) := Opn_slice Try.underlying26 o92 cells92 (by decide)
theorem o28 : Opn Try.prog 28 cal_Calendar := Opn_struct (β := cal_Zone × (List cal_Shift) × (List cal_Special)) (fun (x : cal_Calendar) => (x.zone, x.week, x.specials)) (fun y => (⟨y.1, y.2.1, y.2.2⟩ : cal_Calendar)) (fun _ => rfl) Try.underlying28 cells28 (OpnL_cons rfl cells24 o24 (OpnL_cons rfl cells25 o25 (OpnL_one rfl cells26 o26)))
theorem o36 : Opn Try.prog 36 (List cal_Calendar) := Opn_slice Try.underlying36 o28 cells28 (by decide)

set_option maxRecDepth 100000 in
theorem lifted (os : Os) (started : os.Started) (H : Type) (enc : TypeId × Value → H) :
    ReturnsInHanded {} Try.checked os 7 .any (Rows.clockExplainsSpec.pre6 enc Try.prog Try.f7 Rows.clockExplainsRow.domain false) (Rows.clockExplainsSpec.post enc Try.prog Try.f7 false true false false) := by
  refine returnsInHanded_of_change (C := Try.checked) own started (by kernel_rfl) Try.func7
    (ChangeSpec.witness6 (enc := enc) (C := Try.checked) false ⟨#[], #[.agg #[.int .i64 0, .int .i64 0, .int .i64 0, .int .i64 0, .int .i64 0, .int .i64 0, .slice none 0 0], .slice none 0 0, .int .i64 0], []⟩ 8 (by kernel_rfl) (by kernel_rfl) (by kernel_rfl) (by kernel_rfl)) ?_
  intro W base args ds gs before hval0 hW hcnd _
  have hval : ∀ (j : Nat) t v, Try.f7.params[j]? = some t → args[j]? = some v → Value.okWide Try.prog W .any base t v := hval0
  have hgs : gs = [] := by
    obtain ⟨p, q, _, hV, _⟩ := hW
    cases gs with
    | nil => rfl
    | cons g r => exact hV.elim
  subst hgs
  have hW' := hW
  obtain ⟨p, q, hA0, hV, rfl, hfz, hnd⟩ := hW
  have hA : DataW.TrodAll enc Try.prog W 0 (fun _ => true) true Try.f7.params.toList args.toList ds p := hA0
  rw [Try.params7] at hA hval
  obtain ⟨v0, vs0, d0, ds0, p0, q0, hargs, rfl, rfl, h0, r0⟩ := trodAll_cons hA
  obtain ⟨v1, vs1, d1, ds1, p1, q1, rfl, rfl, rfl, h1, r1⟩ := trodAll_cons r0
  obtain ⟨v2, vs2, d2, ds2, p2, q2, rfl, rfl, rfl, h2, r2⟩ := trodAll_cons r1
  obtain ⟨rfl, rfl, rfl⟩ := trodAll_nil r2
  obtain rfl : args = #[v0, v1, v2] := by cases args; simp_all
  obtain ⟨x0, cs0, rfl, hr0, wf0⟩ := arg_struct o35 Try.underlying35 (hval 0 35 v0 rfl rfl) h0
  obtain ⟨_, _, rfl, rfl, ⟨_, _, rfl, rfl, ⟨_, _, rfl, rfl, ⟨_, _, rfl, rfl, ⟨_, _, rfl, rfl, ⟨_, _, rfl, rfl, ⟨u0_1, rfl, u0g1⟩⟩⟩⟩⟩⟩⟩ := hr0
  obtain ⟨x1, g1, wf1⟩ := arg_slice o36 Try.underlying36 (hval 1 36 v1 rfl rfl) h1
  obtain ⟨x2, rfl, wf2⟩ := arg_int Try.underlying3 (hval 2 3 v2 rfl rfl) h2
  clear hA0 hA hval0
  refine Calls.mono (portlaw2_ClockExplains_c W (fun _ _ => trivial) x0 u0_1 u0g1 x1 v1 g1 x2 (explains_true x0 x1 x2)) ?_
  rintro e W' ⟨v, rfl, rfl, hk⟩
  exact ⟨_, rfl, law_post rfl rfl rfl rfl rfl Try.underlying4 laidOut tys hW' hk⟩

theorem proved : Rows.ClockExplainsSaid :=
  OpenClaim.holds_of_wide 7 Try.f7 rfl rfl rfl rfl rfl rfl rfl ⟨rfl, rfl, rfl, rfl, rfl⟩ rfl rfl rfl rfl rfl (by kernel_rfl) Try.func7 (by kernel_rfl)
    (of_decide_eq_true (by kernel_rfl)) (by unfold Func.isWrapper; first | (rw [if_pos (by decide +kernel)]; kernel_rfl) | (rw [if_neg (by decide +kernel)]; exact ⟨rfl, rfl⟩))
    (fun os started H enc _ => lifted os started H enc)
#print axioms proved
end Go.Proofs.Ytpfoimbklbkcpaa.ClockExplains
