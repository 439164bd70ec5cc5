/-
  RouteDuty: for every input the law returns true, and the input reads as it did. No condition.
-/
import Derived.Test.YtehofjchjogbkaaDoorRows
import Derived.Test.YtehofjchjogbkaaDoorRouteDutyW4
import Derived.Test.YtehofjchjogbkaaDoorRouteDutyCalZone2
import Derived.Test.YtehofjchjogbkaaDoorRouteDutyCalBase
import Derived.Test.YtehofjchjogbkaaDoorRouteDutyCalDays
import Derived.Test.YtehofjchjogbkaaDoorRouteDutyCalIter
import Derived.Test.YtehofjchjogbkaaDoorRouteDutyRouteBase
import Derived.Test.YtehofjchjogbkaaDoorRouteDutyDutyBase
import Derived.Test.YtehofjchjogbkaaDoorRouteDutyRouteDuty
import Derived.Test.YtehofjchjogbkaaDoorGf
import Derived.Test.YtehofjchjogbkaaDoorTie
import Derived.Test.YtehofjchjogbkaaDoorCards
import Derived.SevenTiedAt
import Derived.LaidMore
import Derived.Lay
import Derived.Stop.Joined
namespace Go.Proofs.YtehofjchjogbkaaDoor.RouteDuty
open Go Go.ChangeShapes Go.WideShapes Go.ChangeAt Go.RowKit Go.Gw Go.Pu Go.Proofs.YtehofjchjogbkaaDoor.M Go.Proofs.YtehofjchjogbkaaDoor.W
set_option linter.unusedVariables false
set_option linter.unusedSimpArgs false

theorem own : ownKnob Tryd.prog.godebug = none := by kernel_rfl
theorem laidOut : laidOutB Tryd.prog = true := by kernel_rfl
theorem tys : (Tryd.f3.params.toList.all fun t => Tryd.prog.readableRec t && decide (t < Tryd.prog.types.size)) = true := by kernel_rfl
theorem cells23 : Tryd.prog.cellsOf 23 = 1 := by kernel_rfl
theorem cells46 : Tryd.prog.cellsOf 46 = 4 := by kernel_rfl
theorem cells44 : Tryd.prog.cellsOf 44 = 1 := by kernel_rfl
theorem cells77 : Tryd.prog.cellsOf 77 = 2 := by kernel_rfl
theorem cells43 : Tryd.prog.cellsOf 43 = 1 := by kernel_rfl
theorem cells89 : Tryd.prog.cellsOf 89 = 3 := by kernel_rfl
theorem cells42 : Tryd.prog.cellsOf 42 = 2 := by kernel_rfl
theorem cells40 : Tryd.prog.cellsOf 40 = 1 := by kernel_rfl
theorem cells94 : Tryd.prog.cellsOf 94 = 2 := by kernel_rfl
theorem cells22 : Tryd.prog.cellsOf 22 = 1 := by kernel_rfl
theorem cells37 : Tryd.prog.cellsOf 37 = 4 := by kernel_rfl
theorem cells35 : Tryd.prog.cellsOf 35 = 1 := by kernel_rfl
theorem cells91 : Tryd.prog.cellsOf 91 = 2 := by kernel_rfl
theorem cells9 : Tryd.prog.cellsOf 9 = 1 := by kernel_rfl
theorem cells3 : Tryd.prog.cellsOf 3 = 1 := by kernel_rfl
theorem o3 : Opn Tryd.prog 3 Int := Opn_int Tryd.underlying3
theorem o9 : Opn Tryd.prog 9 ByteArray := Opn_str Tryd.underlying9
theorem o91 : Opn Tryd.prog 91 route_Skill := Opn_struct (β := ByteArray × Int) (fun (x : route_Skill) => (x.name, x.rank)) (fun y => (⟨y.1, y.2⟩ : route_Skill)) (fun _ => rfl) Tryd.underlying91 cells91 (OpnL_cons rfl cells9 o9 (OpnL_one rfl cells3 o3))
theorem o35 : Opn Tryd.prog 35 (List route_Skill) := Opn_slice Tryd.underlying35 o91 cells91 (by decide)
theorem o37 : Opn Tryd.prog 37 route_Person := Opn_struct (β := Int × Int × Int × (List route_Skill)) (fun (x : route_Person) => (x.no, x.capacity, x.calendar, x.skills)) (fun y => (⟨y.1, y.2.1, y.2.2.1, y.2.2.2⟩ : route_Person)) (fun _ => rfl) Tryd.underlying37 cells37 (OpnL_cons rfl cells3 o3 (OpnL_cons rfl cells3 o3 (OpnL_cons rfl cells3 o3 (OpnL_one rfl cells35 o35))))
theorem o22 : Opn Tryd.prog 22 (List route_Person) := Opn_slice Tryd.underlying22 o37 cells37 (by decide)
theorem o94 : Opn Tryd.prog 94 cal_Change := Opn_struct (β := Int × Int) (fun (x : cal_Change) => (x.at_, x.offset)) (fun y => (⟨y.1, y.2⟩ : cal_Change)) (fun _ => rfl) Tryd.underlying94 cells94 (OpnL_cons rfl cells3 o3 (OpnL_one rfl cells3 o3))
theorem o40 : Opn Tryd.prog 40 (List cal_Change) := Opn_slice Tryd.underlying40 o94 cells94 (by decide)
theorem o42 : Opn Tryd.prog 42 cal_Zone := Opn_struct (β := Int × (List cal_Change)) (fun (x : cal_Zone) => (x.offset, x.changes)) (fun y => (⟨y.1, y.2⟩ : cal_Zone)) (fun _ => rfl) Tryd.underlying42 cells42 (OpnL_cons rfl cells3 o3 (OpnL_one rfl cells40 o40))
theorem o89 : Opn Tryd.prog 89 cal_Shift := Opn_struct (β := Int × Int × Int) (fun (x : cal_Shift) => (x.day, x.from_, x.to_)) (fun y => (⟨y.1, y.2.1, y.2.2⟩ : cal_Shift)) (fun _ => rfl) Tryd.underlying89 cells89 (OpnL_cons rfl cells3 o3 (OpnL_cons rfl cells3 o3 (OpnL_one rfl cells3 o3)))
theorem o43 : Opn Tryd.prog 43 (List cal_Shift) := Opn_slice Tryd.underlying43 o89 cells89 (by decide)
theorem o77 : Opn Tryd.prog 77 cal_Special := Opn_struct (β := Int × (List cal_Shift)) (fun (x : cal_Special) => (x.day, x.shifts)) (fun y => (⟨y.1, y.2⟩ : cal_Special)) (fun _ => rfl) Tryd.underlying77 cells77 (OpnL_cons rfl cells3 o3 (OpnL_one rfl cells43 o43))
theorem o44 : Opn Tryd.prog 44 (List cal_Special) := Opn_slice Tryd.underlying44 o77 cells77 (by decide)
theorem o46 : Opn Tryd.prog 46 cal_Calendar := Opn_struct (β := cal_Zone × (List cal_Shift) × (List cal_Special)) (fun (x : cal_Calendar) => (x.zone, x.week, x.specials)) (fun y => (⟨y.1, y.2.1, y.2.2⟩ : cal_Calendar)) (fun _ => rfl) Tryd.underlying46 cells46 (OpnL_cons rfl cells42 o42 (OpnL_cons rfl cells43 o43 (OpnL_one rfl cells44 o44)))
theorem o23 : Opn Tryd.prog 23 (List cal_Calendar) := Opn_slice Tryd.underlying23 o46 cells46 (by decide)

set_option maxRecDepth 100000 in
theorem lifted (os : Os) (started : os.Started) (H : Type) (enc : TypeId × Value → H) :
    ReturnsInHanded {} Tryd.checked os 3 .any (fun w args => (Rows.routeDutySpec.pre enc Tryd.prog Tryd.f3 Rows.routeDutyRow.domain false w args ∧ laidMetH Tryd.prog Rows.routeDutyRow.laid w) ∧ sizedMet enc Tryd.prog Tryd.f3 (OpenSpec.ofChange Rows.routeDutySpec) false w args) (Rows.routeDutySpec.post enc Tryd.prog Tryd.f3 false true false false) := by
  refine returnsInHanded_of_change_and (C := Tryd.checked) (X := fun w _ => laidMetH Tryd.prog Rows.routeDutyRow.laid w) (fun _ _ _ hh h => h.of_heap hh) own started (by kernel_rfl) Tryd.func3
    (ChangeSpec.witness_shaped (enc := enc) (C := Tryd.checked) (os := os) (X := fun w _ => laidMetH Tryd.prog Rows.routeDutyRow.laid w) false (World.laidAll Tryd.prog os Rows.routeDutyRow.laid) #[.slice none 0 0, .slice none 0 0, .int .i64 0] 8 (World.laidAll_os _ _ _) (World.shaped_of_ZipB (by kernel_rfl) (by kernel_rfl)) (by kernel_rfl) (by kernel_rfl) (by kernel_rfl)
      (by rw [MakeChecks.laidMetH_plain _ _ _ (by kernel_rfl)]; exact laidMet_laidAll _ (by kernel_rfl) (by kernel_rfl))) ?_
  intro W base args ds gs before hval0 hW _ _ hL _
  have hval : ∀ (j : Nat) t v, Tryd.f3.params[j]? = some t → args[j]? = some v → Value.okWide Tryd.prog W .any base t v := hval0
  have hgs : gs = [] := by
    obtain ⟨p, q, _, hV, _⟩ := hW
    cases gs with
    | nil => rfl
    | cons g r => exact hV.elim
  subst hgs
  have hW' := hW
  obtain ⟨p, q, hA0, hV, rfl, hfz, hnd⟩ := hW
  have hA : DataW.TrodAll enc Tryd.prog W 0 (fun _ => true) true Tryd.f3.params.toList args.toList ds p := hA0
  rw [Tryd.params3] at hA hval
  obtain ⟨v0, vs0, d0, ds0, p0, q0, hargs, rfl, rfl, h0, r0⟩ := trodAll_cons hA
  obtain ⟨v1, vs1, d1, ds1, p1, q1, rfl, rfl, rfl, h1, r1⟩ := trodAll_cons r0
  obtain ⟨v2, vs2, d2, ds2, p2, q2, rfl, rfl, rfl, h2, r2⟩ := trodAll_cons r1
  obtain ⟨rfl, rfl, rfl⟩ := trodAll_nil r2
  obtain rfl : args = #[v0, v1, v2] := by cases args; simp_all
  obtain ⟨x0, g0, wf0⟩ := arg_slice o22 Tryd.underlying22 (hval 0 22 v0 rfl rfl) h0
  obtain ⟨x1, g1, wf1⟩ := arg_slice o23 Tryd.underlying23 (hval 1 23 v1 rfl rfl) h1
  obtain ⟨x2, rfl, wf2⟩ := arg_int Tryd.underlying3 (hval 2 3 v2 rfl rfl) h2
  clear hA0 hA hval0
  refine Calls.mono (portlaw2_RouteDuty_c W (fun _ _ => trivial) x0 v0 g0 x1 v1 g1 x2 (duty_true x0 x1 x2 (fun p hp k hk => (((wf0.2 p hp).2.2.2.2 k hk).1)))) ?_
  rintro e W' ⟨v, rfl, rfl, hk⟩
  exact ⟨_, rfl, law_post rfl rfl rfl rfl rfl Tryd.underlying4 laidOut tys hW' hk.below⟩

theorem said : Rows.RouteDutySaid :=
  OpenClaim.holds_of_wide 3 Tryd.f3 rfl rfl rfl rfl rfl rfl rfl ⟨rfl, rfl, rfl, rfl, rfl⟩ rfl rfl rfl rfl rfl (by kernel_rfl) Tryd.func3 (by kernel_rfl)
    (of_decide_eq_true (by kernel_rfl)) (by unfold Func.isWrapper; first | (rw [if_pos (by decide +kernel)]; kernel_rfl) | (rw [if_neg (by decide +kernel)]; exact ⟨rfl, rfl⟩))
    (fun os started H enc _ => lifted os started H enc)

theorem proved : Rows.RouteDutyCardSaid :=
  Claim7.holds_tied_plain_at .later [] [.data, .pinned] true (true, "92df6550bfd9c1c56abd7978334f7695cf871161a0beaa4a4ce592ebcc876a23") false
    said (fun _ h => by cases h) (by kernel_rfl) (fun _ h => by cases h) routeDuty_row_tie rfl ⟨rfl, rfl⟩ (by kernel_rfl) rfl
    (fun f fn hf hfn => by
      obtain rfl : f = 3 := Option.some.inj ((show Tryd.prog.funcNamed "porterslodge/portlaw2.RouteDuty" = some 3 by kernel_rfl).symm.trans hf) |>.symm
      obtain rfl : fn = Tryd.f3 := (Option.some.inj (Tryd.func3.symm.trans hfn)).symm
      exact ⟨by kernel_rfl, fun j t ht => by
        rw [Tryd.params3] at ht
        have hm : t ∈ [22, 23, 3] := by simpa using Array.mem_of_getElem? ht
        have hall : ([22, 23, 3].all fun u => !Tryd.prog.wantsStandIn u) = true := by kernel_rfl
        exact (show Tryd.prog.wantsStandIn t = false by simpa using List.all_eq_true.1 hall t hm)⟩)
    (by kernel_rfl)
#print axioms proved
end Go.Proofs.YtehofjchjogbkaaDoor.RouteDuty
