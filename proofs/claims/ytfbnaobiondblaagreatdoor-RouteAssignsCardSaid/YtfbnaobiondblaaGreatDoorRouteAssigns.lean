import Derived.Test.YtfbnaobiondblaaGreatDoorRows
import Derived.Test.YtfbnaobiondblaaGreatDoorRouteAssignsW5
import Derived.Test.YtfbnaobiondblaaGreatDoorRouteAssignsAsA
import Derived.Test.YtfbnaobiondblaaGreatDoorRouteAssignsAsB
import Derived.Test.YtfbnaobiondblaaGreatDoorRouteAssignsAsC
import Derived.Test.YtfbnaobiondblaaGreatDoorRouteAssignsAsD
import Derived.Test.YtfbnaobiondblaaGreatDoorRouteAssignsRouteSteps
import Derived.Test.YtfbnaobiondblaaGreatDoorRouteAssignsRouteAssigns
import Derived.Test.YtfbnaobiondblaaGreatDoorGf
import Derived.Test.YtfbnaobiondblaaGreatDoorTie
import Derived.Test.YtfbnaobiondblaaGreatDoorCards
import Derived.SevenTiedAt
import Derived.LaidMore
import Derived.Lay
import Derived.Stop.Joined
namespace Go.Proofs.YtfbnaobiondblaaGreatDoor.RouteAssigns
open Go Go.ChangeShapes Go.WideShapes Go.ChangeAt Go.RowKit Go.Gw Go.Pu Go.Proofs.YtfbnaobiondblaaGreatDoor.M Go.Proofs.YtfbnaobiondblaaGreatDoor.W
set_option linter.unusedVariables false
set_option linter.unusedSimpArgs false
theorem own : ownKnob Tryz.prog.godebug = none := by kernel_rfl
theorem laidOut : laidOutB Tryz.prog = true := by kernel_rfl
theorem tys : (Tryz.f3.params.toList.all fun t => Tryz.prog.readableRec t && decide (t < Tryz.prog.types.size)) = true := by kernel_rfl
theorem cells173 : Tryz.prog.cellsOf 173 = 3 := by kernel_rfl
theorem cells4 : Tryz.prog.cellsOf 4 = 1 := by kernel_rfl
theorem cells43 : Tryz.prog.cellsOf 43 = 6 := by kernel_rfl
theorem cells32 : Tryz.prog.cellsOf 32 = 4 := by kernel_rfl
theorem cells68 : Tryz.prog.cellsOf 68 = 4 := by kernel_rfl
theorem cells66 : Tryz.prog.cellsOf 66 = 1 := by kernel_rfl
theorem cells78 : Tryz.prog.cellsOf 78 = 2 := by kernel_rfl
theorem cells65 : Tryz.prog.cellsOf 65 = 1 := by kernel_rfl
theorem cells75 : Tryz.prog.cellsOf 75 = 3 := by kernel_rfl
theorem cells64 : Tryz.prog.cellsOf 64 = 2 := by kernel_rfl
theorem cells62 : Tryz.prog.cellsOf 62 = 1 := by kernel_rfl
theorem cells72 : Tryz.prog.cellsOf 72 = 2 := by kernel_rfl
theorem cells124 : Tryz.prog.cellsOf 124 = 4 := by kernel_rfl
theorem cells41 : Tryz.prog.cellsOf 41 = 1 := by kernel_rfl
theorem cells127 : Tryz.prog.cellsOf 127 = 2 := by kernel_rfl
theorem cells9 : Tryz.prog.cellsOf 9 = 1 := by kernel_rfl
theorem cells3 : Tryz.prog.cellsOf 3 = 1 := by kernel_rfl
theorem o3 : Opn Tryz.prog 3 Int := Opn_int Tryz.underlying3
theorem o9 : Opn Tryz.prog 9 ByteArray := Opn_str Tryz.underlying9
theorem o127 : Opn Tryz.prog 127 route_Skill := Opn_struct (β := ByteArray × Int) (fun (x : route_Skill) => (x.name, x.rank)) (fun y => (⟨y.1, y.2⟩ : route_Skill)) (fun _ => rfl) Tryz.underlying127 cells127 (OpnL_cons rfl cells9 o9 (OpnL_one rfl cells3 o3))
theorem o41 : Opn Tryz.prog 41 (List route_Skill) := Opn_slice Tryz.underlying41 o127 cells127 (by decide)
theorem o124 : Opn Tryz.prog 124 route_Person := Opn_struct (β := Int × Int × Int × (List route_Skill)) (fun (x : route_Person) => (x.no, x.capacity, x.calendar, x.skills)) (fun y => (⟨y.1, y.2.1, y.2.2.1, y.2.2.2⟩ : route_Person)) (fun _ => rfl) Tryz.underlying124 cells124 (OpnL_cons rfl cells3 o3 (OpnL_cons rfl cells3 o3 (OpnL_cons rfl cells3 o3 (OpnL_one rfl cells41 o41))))
theorem o22 : Opn Tryz.prog 22 (List route_Person) := Opn_slice Tryz.underlying22 o124 cells124 (by decide)
theorem o72 : Opn Tryz.prog 72 cal_Change := Opn_struct (β := Int × Int) (fun (x : cal_Change) => (x.at_, x.offset)) (fun y => (⟨y.1, y.2⟩ : cal_Change)) (fun _ => rfl) Tryz.underlying72 cells72 (OpnL_cons rfl cells3 o3 (OpnL_one rfl cells3 o3))
theorem o62 : Opn Tryz.prog 62 (List cal_Change) := Opn_slice Tryz.underlying62 o72 cells72 (by decide)
theorem o64 : Opn Tryz.prog 64 cal_Zone := Opn_struct (β := Int × (List cal_Change)) (fun (x : cal_Zone) => (x.offset, x.changes)) (fun y => (⟨y.1, y.2⟩ : cal_Zone)) (fun _ => rfl) Tryz.underlying64 cells64 (OpnL_cons rfl cells3 o3 (OpnL_one rfl cells62 o62))
theorem o75 : Opn Tryz.prog 75 cal_Shift := Opn_struct (β := Int × Int × Int) (fun (x : cal_Shift) => (x.day, x.from_, x.to_)) (fun y => (⟨y.1, y.2.1, y.2.2⟩ : cal_Shift)) (fun _ => rfl) Tryz.underlying75 cells75 (OpnL_cons rfl cells3 o3 (OpnL_cons rfl cells3 o3 (OpnL_one rfl cells3 o3)))
theorem o65 : Opn Tryz.prog 65 (List cal_Shift) := Opn_slice Tryz.underlying65 o75 cells75 (by decide)
theorem o78 : Opn Tryz.prog 78 cal_Special := Opn_struct (β := Int × (List cal_Shift)) (fun (x : cal_Special) => (x.day, x.shifts)) (fun y => (⟨y.1, y.2⟩ : cal_Special)) (fun _ => rfl) Tryz.underlying78 cells78 (OpnL_cons rfl cells3 o3 (OpnL_one rfl cells65 o65))
theorem o66 : Opn Tryz.prog 66 (List cal_Special) := Opn_slice Tryz.underlying66 o78 cells78 (by decide)
theorem o68 : Opn Tryz.prog 68 cal_Calendar := Opn_struct (β := cal_Zone × (List cal_Shift) × (List cal_Special)) (fun (x : cal_Calendar) => (x.zone, x.week, x.specials)) (fun y => (⟨y.1, y.2.1, y.2.2⟩ : cal_Calendar)) (fun _ => rfl) Tryz.underlying68 cells68 (OpnL_cons rfl cells64 o64 (OpnL_cons rfl cells65 o65 (OpnL_one rfl cells66 o66)))
theorem o23 : Opn Tryz.prog 23 (List cal_Calendar) := Opn_slice Tryz.underlying23 o68 cells68 (by decide)
theorem o32 : Opn Tryz.prog 32 route_Held := Opn_struct (β := Int × Int × Int × Int) (fun (x : route_Held) => (x.ticket, x.person, x.weight, x.since)) (fun y => (⟨y.1, y.2.1, y.2.2.1, y.2.2.2⟩ : route_Held)) (fun _ => rfl) Tryz.underlying32 cells32 (OpnL_cons rfl cells3 o3 (OpnL_cons rfl cells3 o3 (OpnL_cons rfl cells3 o3 (OpnL_one rfl cells3 o3))))
theorem o24 : Opn Tryz.prog 24 (List route_Held) := Opn_slice Tryz.underlying24 o32 cells32 (by decide)
theorem o43 : Opn Tryz.prog 43 route_Work := Opn_struct (β := Int × Int × Int × Int × Int × (List route_Skill)) (fun (x : route_Work) => (x.ticket, x.weight, x.urgency, x.since, x.former, x.needs)) (fun y => (⟨y.1, y.2.1, y.2.2.1, y.2.2.2.1, y.2.2.2.2.1, y.2.2.2.2.2⟩ : route_Work)) (fun _ => rfl) Tryz.underlying43 cells43 (OpnL_cons rfl cells3 o3 (OpnL_cons rfl cells3 o3 (OpnL_cons rfl cells3 o3 (OpnL_cons rfl cells3 o3 (OpnL_cons rfl cells3 o3 (OpnL_one rfl cells41 o41))))))
theorem o25 : Opn Tryz.prog 25 (List route_Work) := Opn_slice Tryz.underlying25 o43 cells43 (by decide)
theorem o4 : Opn Tryz.prog 4 Bool := Opn_bool Tryz.underlying4
theorem o173 : Opn Tryz.prog 173 route_Step := Opn_struct (β := Int × Int × Bool) (fun (x : route_Step) => (x.after, x.lower, x.any)) (fun y => (⟨y.1, y.2.1, y.2.2⟩ : route_Step)) (fun _ => rfl) Tryz.underlying173 cells173 (OpnL_cons rfl cells3 o3 (OpnL_cons rfl cells3 o3 (OpnL_one rfl cells4 o4)))
theorem o26 : Opn Tryz.prog 26 (List route_Step) := Opn_slice Tryz.underlying26 o173 cells173 (by decide)
set_option maxRecDepth 100000 in
theorem lifted (os : Os) (started : os.Started) (H : Type) (enc : TypeId × Value → H) :
  ReturnsInHanded {} Tryz.checked os 3 .any (fun w args => (Rows.routeAssignsSpec.pre enc Tryz.prog Tryz.f3 Rows.routeAssignsRow.domain false w args ∧ laidMetH Tryz.prog Rows.routeAssignsRow.laid w) ∧ sizedMet enc Tryz.prog Tryz.f3 (OpenSpec.ofChange Rows.routeAssignsSpec) false w args) (Rows.routeAssignsSpec.post enc Tryz.prog Tryz.f3 false true false false) := by
 refine returnsInHanded_of_change_and (C := Tryz.checked) (X := fun w _ => laidMetH Tryz.prog Rows.routeAssignsRow.laid w) (fun _ _ _ hh h => h.of_heap hh) own started (by kernel_rfl) Tryz.func3
  (ChangeSpec.witness_shaped (enc := enc) (C := Tryz.checked) (os := os) (X := fun w _ => laidMetH Tryz.prog Rows.routeAssignsRow.laid w) false (World.laidAll Tryz.prog os Rows.routeAssignsRow.laid) #[.slice none 0 0, .slice none 0 0, .slice none 0 0, .slice none 0 0, .slice none 0 0, .int .i64 0] 8 (World.laidAll_os _ _ _) (World.shaped_of_ZipB (by kernel_rfl) (by kernel_rfl)) (by kernel_rfl) (by kernel_rfl) (by kernel_rfl)
   (by rw [MakeChecks.laidMetH_plain _ _ _ (by kernel_rfl)]; exact laidMet_laidAll _ (by kernel_rfl) (by kernel_rfl))) ?_
 intro W base args ds gs before hval0 hW _ _ hL _
 have hval : ∀ (j : Nat) t v, Tryz.f3.params[j]? = some t → args[j]? = some v → Value.okWide Tryz.prog W .any base t v := hval0
 have hgs : gs = [] := by
  obtain ⟨p, q, _, hV, _⟩ := hW
  cases gs with
  | nil => rfl
  | cons g r => exact hV.elim
 subst hgs
 have hW' := hW
 obtain ⟨p, q, hA0, hV, rfl, hfz, hnd⟩ := hW
 have hA : DataW.TrodAll enc Tryz.prog W 0 (fun _ => true) true Tryz.f3.params.toList args.toList ds p := hA0
 rw [Tryz.params3] at hA hval
 obtain ⟨v0, vs0, d0, ds0, p0, q0, hargs, rfl, rfl, h0, r0⟩ := trodAll_cons hA
 obtain ⟨v1, vs1, d1, ds1, p1, q1, rfl, rfl, rfl, h1, r1⟩ := trodAll_cons r0
 obtain ⟨v2, vs2, d2, ds2, p2, q2, rfl, rfl, rfl, h2, r2⟩ := trodAll_cons r1
 obtain ⟨v3, vs3, d3, ds3, p3, q3, rfl, rfl, rfl, h3, r3⟩ := trodAll_cons r2
 obtain ⟨v4, vs4, d4, ds4, p4, q4, rfl, rfl, rfl, h4, r4⟩ := trodAll_cons r3
 obtain ⟨v5, vs5, d5, ds5, p5, q5, rfl, rfl, rfl, h5, r5⟩ := trodAll_cons r4
 obtain ⟨rfl, rfl, rfl⟩ := trodAll_nil r5
 obtain rfl : args = #[v0, v1, v2, v3, v4, v5] := by cases args; simp_all
 obtain ⟨x0, g0, wf0⟩ := arg_slice o22 Tryz.underlying22 (hval 0 22 v0 rfl rfl) h0
 obtain ⟨x1, g1, wf1⟩ := arg_slice o23 Tryz.underlying23 (hval 1 23 v1 rfl rfl) h1
 obtain ⟨x2, g2, wf2⟩ := arg_slice o24 Tryz.underlying24 (hval 2 24 v2 rfl rfl) h2
 obtain ⟨x3, g3, wf3⟩ := arg_slice o25 Tryz.underlying25 (hval 3 25 v3 rfl rfl) h3
 obtain ⟨x4, g4, wf4⟩ := arg_slice o26 Tryz.underlying26 (hval 4 26 v4 rfl rfl) h4
 obtain ⟨x5, rfl, wf5⟩ := arg_int Tryz.underlying3 (hval 5 3 v5 rfl rfl) h5
 clear hA0 hA hval0
 refine Calls.mono (portlaw2_RouteAssigns_c W (fun _ _ => trivial) x0 v0 g0 x1 v1 g1 x2 v2 g2 x3 v3 g3 x4 v4 g4 x5 (assigns_true x0 x1 x2 x3 x4 x5 (fun p hp k hk => (((wf0.2 p hp).2.2.2.2 k hk).1)) (fun w hw k hk => ((wf3.2 w hw).2.2.2.2.2.2 k hk).1))) ?_
 rintro e W' ⟨v, rfl, rfl, hk⟩
 exact ⟨_, rfl, law_post rfl rfl rfl rfl rfl Tryz.underlying4 laidOut tys hW' hk.below⟩
theorem said : Rows.RouteAssignsSaid :=
 OpenClaim.holds_of_wide 3 Tryz.f3 rfl rfl rfl rfl rfl rfl rfl ⟨rfl, rfl, rfl, rfl, rfl⟩ rfl rfl rfl rfl rfl (by kernel_rfl) Tryz.func3 (by kernel_rfl)
  (of_decide_eq_true (by kernel_rfl)) (by unfold Func.isWrapper; first | (rw [if_pos (by decide +kernel)]; kernel_rfl) | (rw [if_neg (by decide +kernel)]; exact ⟨rfl, rfl⟩))
  (fun os started H enc _ => lifted os started H enc)
theorem proved : Rows.RouteAssignsCardSaid :=
 Claim7.holds_tied_plain_at .later [] [.data, .pinned] true (true, "91dc77373a7da339a0dbd962bf9b49cd2721605353a7af7d762c63d343969160") true
  said (fun _ h => by cases h) (by kernel_rfl) (fun _ h => by cases h) routeAssigns_row_tie rfl ⟨rfl, rfl⟩ (by kernel_rfl) rfl
  (fun f fn hf hfn => by
   obtain rfl : f = 3 := Option.some.inj ((show Tryz.prog.funcNamed "porterslodge/portlaw2.RouteAssigns" = some 3 by kernel_rfl).symm.trans hf) |>.symm
   obtain rfl : fn = Tryz.f3 := (Option.some.inj (Tryz.func3.symm.trans hfn)).symm
   exact ⟨by kernel_rfl, fun j t ht => by
    rw [Tryz.params3] at ht
    have hm : t ∈ [22, 23, 24, 25, 26, 3] := by simpa using Array.mem_of_getElem? ht
    have hall : ([22, 23, 24, 25, 26, 3].all fun u => !Tryz.prog.wantsStandIn u) = true := by kernel_rfl
    exact (show Tryz.prog.wantsStandIn t = false by simpa using List.all_eq_true.1 hall t hm)⟩)
  (by kernel_rfl)
#print axioms proved
end Go.Proofs.YtfbnaobiondblaaGreatDoor.RouteAssigns
