/-
  RouteMatches: for every input the law returns true, and the input reads as it did. No condition.
-/
import Derived.Test.YtgmenjhmnjhgoaaDoorRows
import Derived.Test.YtgmenjhmnjhgoaaDoorRouteMatchesW4
import Derived.Test.YtgmenjhmnjhgoaaDoorRouteMatchesRouteBase
import Derived.Test.YtgmenjhmnjhgoaaDoorRouteMatchesRouteName
import Derived.Test.YtgmenjhmnjhgoaaDoorRouteMatchesRouteWork
import Derived.Test.YtgmenjhmnjhgoaaDoorRouteMatchesCmpBase
import Derived.Test.YtgmenjhmnjhgoaaDoorRouteMatchesRouteOrder
import Derived.Test.YtgmenjhmnjhgoaaDoorRouteMatchesMatSum
import Derived.Test.YtgmenjhmnjhgoaaDoorRouteMatchesMatClear
import Derived.Test.YtgmenjhmnjhgoaaDoorRouteMatchesMatTake
import Derived.Test.YtgmenjhmnjhgoaaDoorRouteMatchesMatPlace
import Derived.Test.YtgmenjhmnjhgoaaDoorRouteMatchesMatFits
import Derived.Test.YtgmenjhmnjhgoaaDoorRouteMatchesRouteMatches
import Derived.Test.YtgmenjhmnjhgoaaDoorGf
import Derived.Test.YtgmenjhmnjhgoaaDoorTie
import Derived.Test.YtgmenjhmnjhgoaaDoorCards
import Derived.SevenTiedAt
import Derived.LaidMore
import Derived.Lay
import Derived.Stop.Joined
namespace Go.Proofs.YtgmenjhmnjhgoaaDoor.RouteMatches
open Go Go.ChangeShapes Go.WideShapes Go.ChangeAt Go.RowKit Go.Gw Go.Pu Go.Proofs.YtgmenjhmnjhgoaaDoor.M Go.Proofs.YtgmenjhmnjhgoaaDoor.W
set_option linter.unusedVariables false
set_option linter.unusedSimpArgs false

theorem own : ownKnob Tryd.prog.godebug = none := by kernel_rfl
theorem laidOut : laidOutB Tryd.prog = true := by kernel_rfl
theorem tys : (Tryd.f3.params.toList.all fun t => Tryd.prog.readableRec t && decide (t < Tryd.prog.types.size)) = true := by kernel_rfl
theorem cells23 : Tryd.prog.cellsOf 23 = 1 := by kernel_rfl
theorem cells36 : Tryd.prog.cellsOf 36 = 6 := by kernel_rfl
theorem cells22 : Tryd.prog.cellsOf 22 = 1 := by kernel_rfl
theorem cells43 : Tryd.prog.cellsOf 43 = 4 := by kernel_rfl
theorem cells34 : Tryd.prog.cellsOf 34 = 1 := by kernel_rfl
theorem cells62 : Tryd.prog.cellsOf 62 = 2 := by kernel_rfl
theorem cells9 : Tryd.prog.cellsOf 9 = 1 := by kernel_rfl
theorem cells3 : Tryd.prog.cellsOf 3 = 1 := by kernel_rfl
theorem o3 : Opn Tryd.prog 3 Int := Opn_int Tryd.underlying3
theorem o9 : Opn Tryd.prog 9 ByteArray := Opn_str Tryd.underlying9
theorem o62 : Opn Tryd.prog 62 route_Skill := Opn_struct (β := ByteArray × Int) (fun (x : route_Skill) => (x.name, x.rank)) (fun y => (⟨y.1, y.2⟩ : route_Skill)) (fun _ => rfl) Tryd.underlying62 cells62 (OpnL_cons rfl cells9 o9 (OpnL_one rfl cells3 o3))
theorem o34 : Opn Tryd.prog 34 (List route_Skill) := Opn_slice Tryd.underlying34 o62 cells62 (by decide)
theorem o43 : Opn Tryd.prog 43 route_Person := Opn_struct (β := Int × Int × Int × (List route_Skill)) (fun (x : route_Person) => (x.no, x.capacity, x.calendar, x.skills)) (fun y => (⟨y.1, y.2.1, y.2.2.1, y.2.2.2⟩ : route_Person)) (fun _ => rfl) Tryd.underlying43 cells43 (OpnL_cons rfl cells3 o3 (OpnL_cons rfl cells3 o3 (OpnL_cons rfl cells3 o3 (OpnL_one rfl cells34 o34))))
theorem o22 : Opn Tryd.prog 22 (List route_Person) := Opn_slice Tryd.underlying22 o43 cells43 (by decide)
theorem o36 : Opn Tryd.prog 36 route_Work := Opn_struct (β := Int × Int × Int × Int × Int × (List route_Skill)) (fun (x : route_Work) => (x.ticket, x.weight, x.urgency, x.since, x.former, x.needs)) (fun y => (⟨y.1, y.2.1, y.2.2.1, y.2.2.2.1, y.2.2.2.2.1, y.2.2.2.2.2⟩ : route_Work)) (fun _ => rfl) Tryd.underlying36 cells36 (OpnL_cons rfl cells3 o3 (OpnL_cons rfl cells3 o3 (OpnL_cons rfl cells3 o3 (OpnL_cons rfl cells3 o3 (OpnL_cons rfl cells3 o3 (OpnL_one rfl cells34 o34))))))
theorem o23 : Opn Tryd.prog 23 (List route_Work) := Opn_slice Tryd.underlying23 o36 cells36 (by decide)

set_option maxRecDepth 100000 in
theorem lifted (os : Os) (started : os.Started) (H : Type) (enc : TypeId × Value → H) :
    ReturnsInHanded {} Tryd.checked os 3 .any (fun w args => (Rows.routeMatchesSpec.pre enc Tryd.prog Tryd.f3 Rows.routeMatchesRow.domain false w args ∧ laidMetH Tryd.prog Rows.routeMatchesRow.laid w) ∧ sizedMet enc Tryd.prog Tryd.f3 (OpenSpec.ofChange Rows.routeMatchesSpec) false w args) (Rows.routeMatchesSpec.post enc Tryd.prog Tryd.f3 false true false false) := by
  refine returnsInHanded_of_change_and (C := Tryd.checked) (X := fun w _ => laidMetH Tryd.prog Rows.routeMatchesRow.laid w) (fun _ _ _ hh h => h.of_heap hh) own started (by kernel_rfl) Tryd.func3
    (ChangeSpec.witness_shaped (enc := enc) (C := Tryd.checked) (os := os) (X := fun w _ => laidMetH Tryd.prog Rows.routeMatchesRow.laid w) false (World.laidAll Tryd.prog os Rows.routeMatchesRow.laid) #[.slice none 0 0, .slice none 0 0] 8 (World.laidAll_os _ _ _) (World.shaped_of_ZipB (by kernel_rfl) (by kernel_rfl)) (by kernel_rfl) (by kernel_rfl) (by kernel_rfl)
      (by rw [MakeChecks.laidMetH_plain _ _ _ (by kernel_rfl)]; exact laidMet_laidAll _ (by kernel_rfl) (by kernel_rfl))) ?_
  intro W base args ds gs before hval0 hW _ _ hL _
  have hval : ∀ (j : Nat) t v, Tryd.f3.params[j]? = some t → args[j]? = some v → Value.okWide Tryd.prog W .any base t v := hval0
  have hgs : gs = [] := by
    obtain ⟨p, q, _, hV, _⟩ := hW
    cases gs with
    | nil => rfl
    | cons g r => exact hV.elim
  subst hgs
  have hW' := hW
  obtain ⟨p, q, hA0, hV, rfl, hfz, hnd⟩ := hW
  have hA : DataW.TrodAll enc Tryd.prog W 0 (fun _ => true) true Tryd.f3.params.toList args.toList ds p := hA0
  rw [Tryd.params3] at hA hval
  obtain ⟨v0, vs0, d0, ds0, p0, q0, hargs, rfl, rfl, h0, r0⟩ := trodAll_cons hA
  obtain ⟨v1, vs1, d1, ds1, p1, q1, rfl, rfl, rfl, h1, r1⟩ := trodAll_cons r0
  obtain ⟨rfl, rfl, rfl⟩ := trodAll_nil r1
  obtain rfl : args = #[v0, v1] := by cases args; simp_all
  obtain ⟨x0, g0, wf0⟩ := arg_slice o22 Tryd.underlying22 (hval 0 22 v0 rfl rfl) h0
  obtain ⟨x1, g1, wf1⟩ := arg_slice o23 Tryd.underlying23 (hval 1 23 v1 rfl rfl) h1
  clear hA0 hA hval0
  refine Calls.mono (portlaw2_RouteMatches_c W (fun _ _ => trivial) x0 v0 g0 x1 v1 g1 (matches_true x0 x1 (fun p hp k hk => (((wf0.2 p hp).2.2.2.2 k hk).1)) (fun w hw k hk => ((wf1.2 w hw).2.2.2.2.2.2 k hk).1))) ?_
  rintro e W' ⟨v, rfl, rfl, hk⟩
  exact ⟨_, rfl, law_post rfl rfl rfl rfl rfl Tryd.underlying4 laidOut tys hW' hk.below⟩

theorem said : Rows.RouteMatchesSaid :=
  OpenClaim.holds_of_wide 3 Tryd.f3 rfl rfl rfl rfl rfl rfl rfl ⟨rfl, rfl, rfl, rfl, rfl⟩ rfl rfl rfl rfl rfl (by kernel_rfl) Tryd.func3 (by kernel_rfl)
    (of_decide_eq_true (by kernel_rfl)) (by unfold Func.isWrapper; first | (rw [if_pos (by decide +kernel)]; kernel_rfl) | (rw [if_neg (by decide +kernel)]; exact ⟨rfl, rfl⟩))
    (fun os started H enc _ => lifted os started H enc)

theorem proved : Rows.RouteMatchesCardSaid :=
  Claim7.holds_tied_plain_at .later [] [.data, .pinned] true (true, "c1b0801ab7721f20ff83452b785903add1b425139f831a47d424dddb4977f7d8") false
    said (fun _ h => by cases h) (by kernel_rfl) (fun _ h => by cases h) routeMatches_row_tie rfl ⟨rfl, rfl⟩ (by kernel_rfl) rfl
    (fun f fn hf hfn => by
      obtain rfl : f = 3 := Option.some.inj ((show Tryd.prog.funcNamed "porterslodge/portlaw2.RouteMatches" = some 3 by kernel_rfl).symm.trans hf) |>.symm
      obtain rfl : fn = Tryd.f3 := (Option.some.inj (Tryd.func3.symm.trans hfn)).symm
      exact ⟨by kernel_rfl, fun j t ht => by
        rw [Tryd.params3] at ht
        have hm : t ∈ [22, 23] := by simpa using Array.mem_of_getElem? ht
        have hall : ([22, 23].all fun u => !Tryd.prog.wantsStandIn u) = true := by kernel_rfl
        exact (show Tryd.prog.wantsStandIn t = false by simpa using List.all_eq_true.1 hall t hm)⟩)
    (by kernel_rfl)
#print axioms proved
end Go.Proofs.YtgmenjhmnjhgoaaDoor.RouteMatches
