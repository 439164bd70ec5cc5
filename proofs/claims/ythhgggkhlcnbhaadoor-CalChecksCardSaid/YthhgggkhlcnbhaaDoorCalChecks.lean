/-
  CalChecks: for every input the law returns true, and the input reads as it did. No condition.
-/
import Derived.Test.YthhgggkhlcnbhaaDoorRows
import Derived.Test.YthhgggkhlcnbhaaDoorCalChecksW1
import Derived.Test.YthhgggkhlcnbhaaDoorCalChecksCalZoneA
import Derived.Test.YthhgggkhlcnbhaaDoorCalChecksCalBaseA
import Derived.Test.YthhgggkhlcnbhaaDoorCalChecksTextBase
import Derived.Test.YthhgggkhlcnbhaaDoorCalChecksTextLine
import Derived.Test.YthhgggkhlcnbhaaDoorCalChecksTextLines
import Derived.Test.YthhgggkhlcnbhaaDoorCalChecksCalChecks
import Derived.Test.YthhgggkhlcnbhaaDoorGf
import Derived.Test.YthhgggkhlcnbhaaDoorTie
import Derived.Test.YthhgggkhlcnbhaaDoorCards
import Derived.SevenTiedAt
import Derived.LaidMore
import Derived.Lay
import Derived.Stop.Joined
namespace Go.Proofs.YthhgggkhlcnbhaaDoor.CalChecks
open Go Go.ChangeShapes Go.WideShapes Go.ChangeAt Go.RowKit Go.Gw Go.Pu Go.Proofs.YthhgggkhlcnbhaaDoor.M Go.Proofs.YthhgggkhlcnbhaaDoor.W
set_option linter.unusedVariables false
set_option linter.unusedSimpArgs false

theorem own : ownKnob Tryd.prog.godebug = none := by kernel_rfl
theorem laidOut : laidOutB Tryd.prog = true := by kernel_rfl
theorem tys : (Tryd.f3.params.toList.all fun t => Tryd.prog.readableRec t && decide (t < Tryd.prog.types.size)) = true := by kernel_rfl
theorem cells28 : Tryd.prog.cellsOf 28 = 4 := by kernel_rfl
theorem cells26 : Tryd.prog.cellsOf 26 = 1 := by kernel_rfl
theorem cells59 : Tryd.prog.cellsOf 59 = 2 := by kernel_rfl
theorem cells25 : Tryd.prog.cellsOf 25 = 1 := by kernel_rfl
theorem cells57 : Tryd.prog.cellsOf 57 = 3 := by kernel_rfl
theorem cells24 : Tryd.prog.cellsOf 24 = 2 := by kernel_rfl
theorem cells22 : Tryd.prog.cellsOf 22 = 1 := by kernel_rfl
theorem cells55 : Tryd.prog.cellsOf 55 = 2 := by kernel_rfl
theorem cells3 : Tryd.prog.cellsOf 3 = 1 := by kernel_rfl
theorem o3 : Opn Tryd.prog 3 Int := Opn_int Tryd.underlying3
theorem o55 : Opn Tryd.prog 55 cal_Change := Opn_struct (β := Int × Int) (fun (x : cal_Change) => (x.at_, x.offset)) (fun y => (⟨y.1, y.2⟩ : cal_Change)) (fun _ => rfl) Tryd.underlying55 cells55 (OpnL_cons rfl cells3 o3 (OpnL_one rfl cells3 o3))
theorem o22 : Opn Tryd.prog 22 (List cal_Change) := Opn_slice Tryd.underlying22 o55 cells55 (by decide)
theorem o24 : Opn Tryd.prog 24 cal_Zone := Opn_struct (β := Int × (List cal_Change)) (fun (x : cal_Zone) => (x.offset, x.changes)) (fun y => (⟨y.1, y.2⟩ : cal_Zone)) (fun _ => rfl) Tryd.underlying24 cells24 (OpnL_cons rfl cells3 o3 (OpnL_one rfl cells22 o22))
theorem o57 : Opn Tryd.prog 57 cal_Shift := Opn_struct (β := Int × Int × Int) (fun (x : cal_Shift) => (x.day, x.from_, x.to_)) (fun y => (⟨y.1, y.2.1, y.2.2⟩ : cal_Shift)) (fun _ => rfl) Tryd.underlying57 cells57 (OpnL_cons rfl cells3 o3 (OpnL_cons rfl cells3 o3 (OpnL_one rfl cells3 o3)))
theorem o25 : Opn Tryd.prog 25 (List cal_Shift) := Opn_slice Tryd.underlying25 o57 cells57 (by decide)
theorem o59 : Opn Tryd.prog 59 cal_Special := Opn_struct (β := Int × (List cal_Shift)) (fun (x : cal_Special) => (x.day, x.shifts)) (fun y => (⟨y.1, y.2⟩ : cal_Special)) (fun _ => rfl) Tryd.underlying59 cells59 (OpnL_cons rfl cells3 o3 (OpnL_one rfl cells25 o25))
theorem o26 : Opn Tryd.prog 26 (List cal_Special) := Opn_slice Tryd.underlying26 o59 cells59 (by decide)
theorem o28 : Opn Tryd.prog 28 cal_Calendar := Opn_struct (β := cal_Zone × (List cal_Shift) × (List cal_Special)) (fun (x : cal_Calendar) => (x.zone, x.week, x.specials)) (fun y => (⟨y.1, y.2.1, y.2.2⟩ : cal_Calendar)) (fun _ => rfl) Tryd.underlying28 cells28 (OpnL_cons rfl cells24 o24 (OpnL_cons rfl cells25 o25 (OpnL_one rfl cells26 o26)))

set_option maxRecDepth 100000 in
theorem lifted (os : Os) (started : os.Started) (H : Type) (enc : TypeId × Value → H) :
    ReturnsInHanded {} Tryd.checked os 3 .any (fun w args => (Rows.calChecksSpec.pre enc Tryd.prog Tryd.f3 Rows.calChecksRow.domain false w args ∧ laidMetH Tryd.prog Rows.calChecksRow.laid w) ∧ sizedMet enc Tryd.prog Tryd.f3 (OpenSpec.ofChange Rows.calChecksSpec) false w args) (Rows.calChecksSpec.post enc Tryd.prog Tryd.f3 false true false false) := by
  refine returnsInHanded_of_change_and (C := Tryd.checked) (X := fun w _ => laidMetH Tryd.prog Rows.calChecksRow.laid w) (fun _ _ _ hh h => h.of_heap hh) own started (by kernel_rfl) Tryd.func3
    (ChangeSpec.witness_shaped (enc := enc) (C := Tryd.checked) (os := os) (X := fun w _ => laidMetH Tryd.prog Rows.calChecksRow.laid w) false (World.laidAll Tryd.prog os Rows.calChecksRow.laid) #[.agg #[.int .i64 0, .slice none 0 0, .slice none 0 0, .slice none 0 0]] 8 (World.laidAll_os _ _ _) (World.shaped_of_ZipB (by kernel_rfl) (by kernel_rfl)) (by kernel_rfl) (by kernel_rfl) (by kernel_rfl)
      (by rw [MakeChecks.laidMetH_plain _ _ _ (by kernel_rfl)]; exact laidMet_laidAll _ (by kernel_rfl) (by kernel_rfl))) ?_
  intro W base args ds gs before hval0 hW _ _ hL _
  have hval : ∀ (j : Nat) t v, Tryd.f3.params[j]? = some t → args[j]? = some v → Value.okWide Tryd.prog W .any base t v := hval0
  have hgs : gs = [] := by
    obtain ⟨p, q, _, hV, _⟩ := hW
    cases gs with
    | nil => rfl
    | cons g r => exact hV.elim
  subst hgs
  have hW' := hW
  obtain ⟨p, q, hA0, hV, rfl, hfz, hnd⟩ := hW
  have hA : DataW.TrodAll enc Tryd.prog W 0 (fun _ => true) true Tryd.f3.params.toList args.toList ds p := hA0
  rw [Tryd.params3] at hA hval
  obtain ⟨v0, vs0, d0, ds0, p0, q0, hargs, rfl, rfl, h0, r0⟩ := trodAll_cons hA
  obtain ⟨rfl, rfl, rfl⟩ := trodAll_nil r0
  obtain rfl : args = #[v0] := by cases args; simp_all
  obtain ⟨x0, cs0, rfl, hr0, wf0⟩ := arg_struct o28 Tryd.underlying28 (hval 0 28 v0 rfl rfl) h0
  obtain ⟨_, _, rfl, ⟨_, _, rfl, rfl, ⟨u0_1, rfl, u0g1⟩⟩, ⟨_, _, rfl, ⟨u0_2, rfl, u0g2⟩, ⟨u0_3, rfl, u0g3⟩⟩⟩ := hr0
  clear hA0 hA hval0
  refine Calls.mono (portlaw2_CalChecks_c W (fun _ _ => trivial) (Tb.laid hL (by kernel_rfl) (by simp only [Rows.calChecksRow, List.mem_cons]; first | exact .inl rfl | exact .inr (.inl rfl) | exact .inr (.inr (.inl rfl)) | exact .inr (.inr (.inr (.inl rfl))) | exact .inr (.inr (.inr (.inr (.inl rfl))))) (g := 0) (by kernel_rfl) (by kernel_rfl) Tryd.underlying109 Tryd.underlying94 (by kernel_rfl) (by kernel_rfl)) x0 u0_1 u0g1 u0_2 u0g2 u0_3 u0g3 (checks_true x0 ⟨wf0.1.1, fun x hx => wf0.1.2.2 x hx, fun x hx => wf0.2.1.2 x hx, fun x hx => ⟨(wf0.2.2.2 x hx).1, fun s hs => ((wf0.2.2.2 x hx).2.2 s hs).2⟩⟩)) ?_
  rintro e W' ⟨v, rfl, rfl, hk⟩
  exact ⟨_, rfl, law_post rfl rfl rfl rfl rfl Tryd.underlying4 laidOut tys hW' hk⟩

theorem said : Rows.CalChecksSaid :=
  OpenClaim.holds_of_wide 3 Tryd.f3 rfl rfl rfl rfl rfl rfl rfl ⟨rfl, rfl, rfl, rfl, rfl⟩ rfl rfl rfl rfl rfl (by kernel_rfl) Tryd.func3 (by kernel_rfl)
    (of_decide_eq_true (by kernel_rfl)) (by unfold Func.isWrapper; first | (rw [if_pos (by decide +kernel)]; kernel_rfl) | (rw [if_neg (by decide +kernel)]; exact ⟨rfl, rfl⟩))
    (fun os started H enc _ => lifted os started H enc)

theorem proved : Rows.CalChecksCardSaid :=
  Claim7.holds_tied_plain_at .later [] [.data, .data, .data] true (true, "2be0b65f8e6c9612ff1ef430e12d2c3554c6ea44de4817b25ad0ab0526fbfaf2") true
    said (fun _ h => by cases h) (by kernel_rfl) (fun _ h => by cases h) calChecks_row_tie rfl ⟨rfl, rfl⟩ (by kernel_rfl) rfl
    (fun f fn hf hfn => by
      obtain rfl : f = 3 := Option.some.inj ((show Tryd.prog.funcNamed "porterslodge/portlaw2.CalChecks" = some 3 by kernel_rfl).symm.trans hf) |>.symm
      obtain rfl : fn = Tryd.f3 := (Option.some.inj (Tryd.func3.symm.trans hfn)).symm
      exact ⟨by kernel_rfl, fun j t ht => by
        rw [Tryd.params3] at ht
        have hm : t ∈ [28] := by simpa using Array.mem_of_getElem? ht
        have hall : ([28].all fun u => !Tryd.prog.wantsStandIn u) = true := by kernel_rfl
        exact (show Tryd.prog.wantsStandIn t = false by simpa using List.all_eq_true.1 hall t hm)⟩)
    (by kernel_rfl)
#print axioms proved
end Go.Proofs.YthhgggkhlcnbhaaDoor.CalChecks
