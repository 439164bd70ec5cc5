/-
  RouteChecks: for every input the law returns true, and the input reads as it did. No condition.
-/
import Derived.Test.YthhgggkhlcnbhaaDoorRows
import Derived.Test.YthhgggkhlcnbhaaDoorRouteChecksW1
import Derived.Test.YthhgggkhlcnbhaaDoorRouteChecksRouteBase
import Derived.Test.YthhgggkhlcnbhaaDoorRouteChecksRouteSteps
import Derived.Test.YthhgggkhlcnbhaaDoorRouteChecksTextBase
import Derived.Test.YthhgggkhlcnbhaaDoorRouteChecksTextLine
import Derived.Test.YthhgggkhlcnbhaaDoorRouteChecksRouteChecks
import Derived.Test.YthhgggkhlcnbhaaDoorGf
import Derived.Test.YthhgggkhlcnbhaaDoorTie
import Derived.Test.YthhgggkhlcnbhaaDoorCards
import Derived.SevenTiedAt
import Derived.LaidMore
import Derived.Lay
import Derived.Stop.Joined
namespace Go.Proofs.YthhgggkhlcnbhaaDoor.RouteChecks
open Go Go.ChangeShapes Go.WideShapes Go.ChangeAt Go.RowKit Go.Gw Go.Pu Go.Proofs.YthhgggkhlcnbhaaDoor.M Go.Proofs.YthhgggkhlcnbhaaDoor.W
set_option linter.unusedVariables false
set_option linter.unusedSimpArgs false

theorem own : ownKnob Tryd.prog.godebug = none := by kernel_rfl
theorem laidOut : laidOutB Tryd.prog = true := by kernel_rfl
theorem tys : (Tryd.f4.params.toList.all fun t => Tryd.prog.readableRec t && decide (t < Tryd.prog.types.size)) = true := by kernel_rfl
theorem cells36 : Tryd.prog.cellsOf 36 = 1 := by kernel_rfl
theorem cells81 : Tryd.prog.cellsOf 81 = 3 := by kernel_rfl
theorem cells4 : Tryd.prog.cellsOf 4 = 1 := by kernel_rfl
theorem cells35 : Tryd.prog.cellsOf 35 = 1 := by kernel_rfl
theorem cells76 : Tryd.prog.cellsOf 76 = 6 := by kernel_rfl
theorem cells34 : Tryd.prog.cellsOf 34 = 1 := by kernel_rfl
theorem cells69 : Tryd.prog.cellsOf 69 = 4 := by kernel_rfl
theorem cells67 : Tryd.prog.cellsOf 67 = 1 := by kernel_rfl
theorem cells72 : Tryd.prog.cellsOf 72 = 2 := by kernel_rfl
theorem cells9 : Tryd.prog.cellsOf 9 = 1 := by kernel_rfl
theorem cells3 : Tryd.prog.cellsOf 3 = 1 := by kernel_rfl
theorem o3 : Opn Tryd.prog 3 Int := Opn_int Tryd.underlying3
theorem o9 : Opn Tryd.prog 9 ByteArray := Opn_str Tryd.underlying9
theorem o72 : Opn Tryd.prog 72 route_Skill := Opn_struct (β := ByteArray × Int) (fun (x : route_Skill) => (x.name, x.rank)) (fun y => (⟨y.1, y.2⟩ : route_Skill)) (fun _ => rfl) Tryd.underlying72 cells72 (OpnL_cons rfl cells9 o9 (OpnL_one rfl cells3 o3))
theorem o67 : Opn Tryd.prog 67 (List route_Skill) := Opn_slice Tryd.underlying67 o72 cells72 (by decide)
theorem o69 : Opn Tryd.prog 69 route_Person := Opn_struct (β := Int × Int × Int × (List route_Skill)) (fun (x : route_Person) => (x.no, x.capacity, x.calendar, x.skills)) (fun y => (⟨y.1, y.2.1, y.2.2.1, y.2.2.2⟩ : route_Person)) (fun _ => rfl) Tryd.underlying69 cells69 (OpnL_cons rfl cells3 o3 (OpnL_cons rfl cells3 o3 (OpnL_cons rfl cells3 o3 (OpnL_one rfl cells67 o67))))
theorem o34 : Opn Tryd.prog 34 (List route_Person) := Opn_slice Tryd.underlying34 o69 cells69 (by decide)
theorem o76 : Opn Tryd.prog 76 route_Work := Opn_struct (β := Int × Int × Int × Int × Int × (List route_Skill)) (fun (x : route_Work) => (x.ticket, x.weight, x.urgency, x.since, x.former, x.needs)) (fun y => (⟨y.1, y.2.1, y.2.2.1, y.2.2.2.1, y.2.2.2.2.1, y.2.2.2.2.2⟩ : route_Work)) (fun _ => rfl) Tryd.underlying76 cells76 (OpnL_cons rfl cells3 o3 (OpnL_cons rfl cells3 o3 (OpnL_cons rfl cells3 o3 (OpnL_cons rfl cells3 o3 (OpnL_cons rfl cells3 o3 (OpnL_one rfl cells67 o67))))))
theorem o35 : Opn Tryd.prog 35 (List route_Work) := Opn_slice Tryd.underlying35 o76 cells76 (by decide)
theorem o4 : Opn Tryd.prog 4 Bool := Opn_bool Tryd.underlying4
theorem o81 : Opn Tryd.prog 81 route_Step := Opn_struct (β := Int × Int × Bool) (fun (x : route_Step) => (x.after, x.lower, x.any)) (fun y => (⟨y.1, y.2.1, y.2.2⟩ : route_Step)) (fun _ => rfl) Tryd.underlying81 cells81 (OpnL_cons rfl cells3 o3 (OpnL_cons rfl cells3 o3 (OpnL_one rfl cells4 o4)))
theorem o36 : Opn Tryd.prog 36 (List route_Step) := Opn_slice Tryd.underlying36 o81 cells81 (by decide)

set_option maxRecDepth 100000 in
theorem lifted (os : Os) (started : os.Started) (H : Type) (enc : TypeId × Value → H) :
    ReturnsInHanded {} Tryd.checked os 4 .any (fun w args => (Rows.routeChecksSpec.pre enc Tryd.prog Tryd.f4 Rows.routeChecksRow.domain false w args ∧ laidMetH Tryd.prog Rows.routeChecksRow.laid w) ∧ sizedMet enc Tryd.prog Tryd.f4 (OpenSpec.ofChange Rows.routeChecksSpec) false w args) (Rows.routeChecksSpec.post enc Tryd.prog Tryd.f4 false true false false) := by
  refine returnsInHanded_of_change_and (C := Tryd.checked) (X := fun w _ => laidMetH Tryd.prog Rows.routeChecksRow.laid w) (fun _ _ _ hh h => h.of_heap hh) own started (by kernel_rfl) Tryd.func4
    (ChangeSpec.witness_shaped (enc := enc) (C := Tryd.checked) (os := os) (X := fun w _ => laidMetH Tryd.prog Rows.routeChecksRow.laid w) false (World.laidAll Tryd.prog os Rows.routeChecksRow.laid) #[.slice none 0 0, .slice none 0 0, .slice none 0 0] 8 (World.laidAll_os _ _ _) (World.shaped_of_ZipB (by kernel_rfl) (by kernel_rfl)) (by kernel_rfl) (by kernel_rfl) (by kernel_rfl)
      (by rw [MakeChecks.laidMetH_plain _ _ _ (by kernel_rfl)]; exact laidMet_laidAll _ (by kernel_rfl) (by kernel_rfl))) ?_
  intro W base args ds gs before hval0 hW _ _ hL _
  have hval : ∀ (j : Nat) t v, Tryd.f4.params[j]? = some t → args[j]? = some v → Value.okWide Tryd.prog W .any base t v := hval0
  have hgs : gs = [] := by
    obtain ⟨p, q, _, hV, _⟩ := hW
    cases gs with
    | nil => rfl
    | cons g r => exact hV.elim
  subst hgs
  have hW' := hW
  obtain ⟨p, q, hA0, hV, rfl, hfz, hnd⟩ := hW
  have hA : DataW.TrodAll enc Tryd.prog W 0 (fun _ => true) true Tryd.f4.params.toList args.toList ds p := hA0
  rw [Tryd.params4] at hA hval
  obtain ⟨v0, vs0, d0, ds0, p0, q0, hargs, rfl, rfl, h0, r0⟩ := trodAll_cons hA
  obtain ⟨v1, vs1, d1, ds1, p1, q1, rfl, rfl, rfl, h1, r1⟩ := trodAll_cons r0
  obtain ⟨v2, vs2, d2, ds2, p2, q2, rfl, rfl, rfl, h2, r2⟩ := trodAll_cons r1
  obtain ⟨rfl, rfl, rfl⟩ := trodAll_nil r2
  obtain rfl : args = #[v0, v1, v2] := by cases args; simp_all
  obtain ⟨x0, g0, wf0⟩ := arg_slice o34 Tryd.underlying34 (hval 0 34 v0 rfl rfl) h0
  obtain ⟨x1, g1, wf1⟩ := arg_slice o35 Tryd.underlying35 (hval 1 35 v1 rfl rfl) h1
  obtain ⟨x2, g2, wf2⟩ := arg_slice o36 Tryd.underlying36 (hval 2 36 v2 rfl rfl) h2
  clear hA0 hA hval0
  refine Calls.mono (portlaw2_RouteChecks_c W (fun _ _ => trivial) (Tb.laid hL (by kernel_rfl) (by simp only [Rows.routeChecksRow, List.mem_cons]; first | exact .inl rfl | exact .inr (.inl rfl) | exact .inr (.inr (.inl rfl)) | exact .inr (.inr (.inr (.inl rfl))) | exact .inr (.inr (.inr (.inr (.inl rfl))))) (g := 0) (by kernel_rfl) (by kernel_rfl) Tryd.underlying109 Tryd.underlying94 (by kernel_rfl) (by kernel_rfl)) x0 v0 g0 x1 v1 g1 x2 v2 g2 (checks_true x0 x1 x2 (fun p hp => ⟨⟨(wf0.2 p hp).1, (wf0.2 p hp).2.1, (wf0.2 p hp).2.2.1⟩, fun k hk => ((wf0.2 p hp).2.2.2.2 k hk).1⟩) (fun w hw k hk => ((wf1.2 w hw).2.2.2.2.2.2 k hk).1))) ?_
  rintro e W' ⟨v, rfl, rfl, hk⟩
  exact ⟨_, rfl, law_post rfl rfl rfl rfl rfl Tryd.underlying4 laidOut tys hW' hk⟩

theorem said : Rows.RouteChecksSaid :=
  OpenClaim.holds_of_wide 4 Tryd.f4 rfl rfl rfl rfl rfl rfl rfl ⟨rfl, rfl, rfl, rfl, rfl⟩ rfl rfl rfl rfl rfl (by kernel_rfl) Tryd.func4 (by kernel_rfl)
    (of_decide_eq_true (by kernel_rfl)) (by unfold Func.isWrapper; first | (rw [if_pos (by decide +kernel)]; kernel_rfl) | (rw [if_neg (by decide +kernel)]; exact ⟨rfl, rfl⟩))
    (fun os started H enc _ => lifted os started H enc)

theorem proved : Rows.RouteChecksCardSaid :=
  Claim7.holds_tied_plain_at .later [] [.data, .data, .data, .data, .pinned] true (true, "2be0b65f8e6c9612ff1ef430e12d2c3554c6ea44de4817b25ad0ab0526fbfaf2") true
    said (fun _ h => by cases h) (by kernel_rfl) (fun _ h => by cases h) routeChecks_row_tie rfl ⟨rfl, rfl⟩ (by kernel_rfl) rfl
    (fun f fn hf hfn => by
      obtain rfl : f = 4 := Option.some.inj ((show Tryd.prog.funcNamed "porterslodge/portlaw2.RouteChecks" = some 4 by kernel_rfl).symm.trans hf) |>.symm
      obtain rfl : fn = Tryd.f4 := (Option.some.inj (Tryd.func4.symm.trans hfn)).symm
      exact ⟨by kernel_rfl, fun j t ht => by
        rw [Tryd.params4] at ht
        have hm : t ∈ [34, 35, 36] := by simpa using Array.mem_of_getElem? ht
        have hall : ([34, 35, 36].all fun u => !Tryd.prog.wantsStandIn u) = true := by kernel_rfl
        exact (show Tryd.prog.wantsStandIn t = false by simpa using List.all_eq_true.1 hall t hm)⟩)
    (by kernel_rfl)
#print axioms proved
end Go.Proofs.YthhgggkhlcnbhaaDoor.RouteChecks
