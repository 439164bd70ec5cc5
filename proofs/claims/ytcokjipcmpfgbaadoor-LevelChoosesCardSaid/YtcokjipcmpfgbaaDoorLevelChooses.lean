/-
  LevelChooses: for every input the law returns true, and the input reads as it did. No condition.
-/
import Derived.Test.YtcokjipcmpfgbaaDoorRows
import Derived.Test.YtcokjipcmpfgbaaDoorLevelChoosesW1
import Derived.Test.YtcokjipcmpfgbaaDoorLevelChoosesLvlName
import Derived.Test.YtcokjipcmpfgbaaDoorLevelChoosesLowRune
import Derived.Test.YtcokjipcmpfgbaaDoorLevelChoosesLvlPolicy
import Derived.Test.YtcokjipcmpfgbaaDoorLevelChoosesLvlCheck
import Derived.Test.YtcokjipcmpfgbaaDoorLevelChoosesLevelChooses
import Derived.Test.YtcokjipcmpfgbaaDoorGf
import Derived.Test.YtcokjipcmpfgbaaDoorTie
import Derived.Test.YtcokjipcmpfgbaaDoorCards
import Derived.SevenTiedAt
import Derived.LaidMore
import Derived.Lay
import Derived.Stop.Joined
namespace Go.Proofs.YtcokjipcmpfgbaaDoor.LevelChooses
open Go Go.ChangeShapes Go.WideShapes Go.ChangeAt Go.RowKit Go.Gw Go.Pu Go.Proofs.YtcokjipcmpfgbaaDoor.M Go.Proofs.YtcokjipcmpfgbaaDoor.W
set_option linter.unusedVariables false
set_option linter.unusedSimpArgs false

theorem own : ownKnob Tryd.prog.godebug = none := by kernel_rfl
theorem laidOut : laidOutB Tryd.prog = true := by kernel_rfl
theorem tys : (Tryd.f5.params.toList.all fun t => Tryd.prog.readableRec t && decide (t < Tryd.prog.types.size)) = true := by kernel_rfl
theorem cells40 : Tryd.prog.cellsOf 40 = 1 := by kernel_rfl
theorem cells39 : Tryd.prog.cellsOf 39 = 2 := by kernel_rfl
theorem cells37 : Tryd.prog.cellsOf 37 = 1 := by kernel_rfl
theorem cells93 : Tryd.prog.cellsOf 93 = 3 := by kernel_rfl
theorem cells91 : Tryd.prog.cellsOf 91 = 1 := by kernel_rfl
theorem cells100 : Tryd.prog.cellsOf 100 = 3 := by kernel_rfl
theorem cells90 : Tryd.prog.cellsOf 90 = 1 := by kernel_rfl
theorem cells97 : Tryd.prog.cellsOf 97 = 4 := by kernel_rfl
theorem cells95 : Tryd.prog.cellsOf 95 = 3 := by kernel_rfl
theorem cells9 : Tryd.prog.cellsOf 9 = 1 := by kernel_rfl
theorem cells28 : Tryd.prog.cellsOf 28 = 1 := by kernel_rfl
theorem cells3 : Tryd.prog.cellsOf 3 = 1 := by kernel_rfl
theorem o3 : Opn Tryd.prog 3 Int := Opn_int Tryd.underlying3
theorem o28 : Opn Tryd.prog 28 (List Int) := Opn_slice Tryd.underlying28 o3 cells3 (by decide)
theorem o9 : Opn Tryd.prog 9 ByteArray := Opn_str Tryd.underlying9
theorem o95 : Opn Tryd.prog 95 api_Value := Opn_struct (β := Int × Int × ByteArray) (fun (x : api_Value) => (x.kind, x.int, x.text)) (fun y => (⟨y.1, y.2.1, y.2.2⟩ : api_Value)) (fun _ => rfl) Tryd.underlying95 cells95 (OpnL_cons rfl cells3 o3 (OpnL_cons rfl cells3 o3 (OpnL_one rfl cells9 o9)))
theorem o97 : Opn Tryd.prog 97 level_Test := Opn_struct (β := Int × api_Value) (fun (x : level_Test) => (x.field, x.value)) (fun y => (⟨y.1, y.2⟩ : level_Test)) (fun _ => rfl) Tryd.underlying97 cells97 (OpnL_cons rfl cells3 o3 (OpnL_one rfl cells95 o95))
theorem o90 : Opn Tryd.prog 90 (List level_Test) := Opn_slice Tryd.underlying90 o97 cells97 (by decide)
theorem o100 : Opn Tryd.prog 100 level_Target := Opn_struct (β := Int × Int × Int) (fun (x : level_Target) => (x.kind, x.minutes, x.calendar)) (fun y => (⟨y.1, y.2.1, y.2.2⟩ : level_Target)) (fun _ => rfl) Tryd.underlying100 cells100 (OpnL_cons rfl cells3 o3 (OpnL_cons rfl cells3 o3 (OpnL_one rfl cells3 o3)))
theorem o91 : Opn Tryd.prog 91 (List level_Target) := Opn_slice Tryd.underlying91 o100 cells100 (by decide)
theorem o93 : Opn Tryd.prog 93 level_Level := Opn_struct (β := ByteArray × (List level_Test) × (List level_Target)) (fun (x : level_Level) => (x.name, x.tests, x.targets)) (fun y => (⟨y.1, y.2.1, y.2.2⟩ : level_Level)) (fun _ => rfl) Tryd.underlying93 cells93 (OpnL_cons rfl cells9 o9 (OpnL_cons rfl cells90 o90 (OpnL_one rfl cells91 o91)))
theorem o37 : Opn Tryd.prog 37 (List level_Level) := Opn_slice Tryd.underlying37 o93 cells93 (by decide)
theorem o39 : Opn Tryd.prog 39 level_Policy := Opn_struct (β := (List Int) × (List level_Level)) (fun (x : level_Policy) => (x.pauses, x.levels)) (fun y => (⟨y.1, y.2⟩ : level_Policy)) (fun _ => rfl) Tryd.underlying39 cells39 (OpnL_cons rfl cells28 o28 (OpnL_one rfl cells37 o37))
theorem o40 : Opn Tryd.prog 40 (List api_Value) := Opn_slice Tryd.underlying40 o95 cells95 (by decide)

set_option maxRecDepth 100000 in
theorem lifted (os : Os) (started : os.Started) (H : Type) (enc : TypeId × Value → H) :
    ReturnsInHanded {} Tryd.checked os 5 .any (fun w args => (Rows.levelChoosesSpec.pre enc Tryd.prog Tryd.f5 Rows.levelChoosesRow.domain false w args ∧ laidMetH Tryd.prog Rows.levelChoosesRow.laid w) ∧ sizedMet enc Tryd.prog Tryd.f5 (OpenSpec.ofChange Rows.levelChoosesSpec) false w args) (Rows.levelChoosesSpec.post enc Tryd.prog Tryd.f5 false true false false) := by
  refine returnsInHanded_of_change_and (C := Tryd.checked) (X := fun w _ => laidMetH Tryd.prog Rows.levelChoosesRow.laid w) (fun _ _ _ hh h => h.of_heap hh) own started (by kernel_rfl) Tryd.func5
    (ChangeSpec.witness_shaped (enc := enc) (C := Tryd.checked) (os := os) (X := fun w _ => laidMetH Tryd.prog Rows.levelChoosesRow.laid w) false (World.laidAll Tryd.prog os Rows.levelChoosesRow.laid) #[.agg #[.slice none 0 0, .slice none 0 0], .int .i64 0, .slice none 0 0] 8 (World.laidAll_os _ _ _) (World.shaped_of_ZipB (by kernel_rfl) (by kernel_rfl)) (by kernel_rfl) (by kernel_rfl) (by kernel_rfl)
      (by rw [MakeChecks.laidMetH_plain _ _ _ (by kernel_rfl)]; exact laidMet_laidAll _ (by kernel_rfl) (by kernel_rfl))) ?_
  intro W base args ds gs before hval0 hW _ _ hL _
  have hval : ∀ (j : Nat) t v, Tryd.f5.params[j]? = some t → args[j]? = some v → Value.okWide Tryd.prog W .any base t v := hval0
  have hgs : gs = [] := by
    obtain ⟨p, q, _, hV, _⟩ := hW
    cases gs with
    | nil => rfl
    | cons g r => exact hV.elim
  subst hgs
  have hW' := hW
  obtain ⟨p, q, hA0, hV, rfl, hfz, hnd⟩ := hW
  have hA : DataW.TrodAll enc Tryd.prog W 0 (fun _ => true) true Tryd.f5.params.toList args.toList ds p := hA0
  rw [Tryd.params5] at hA hval
  obtain ⟨v0, vs0, d0, ds0, p0, q0, hargs, rfl, rfl, h0, r0⟩ := trodAll_cons hA
  obtain ⟨v1, vs1, d1, ds1, p1, q1, rfl, rfl, rfl, h1, r1⟩ := trodAll_cons r0
  obtain ⟨v2, vs2, d2, ds2, p2, q2, rfl, rfl, rfl, h2, r2⟩ := trodAll_cons r1
  obtain ⟨rfl, rfl, rfl⟩ := trodAll_nil r2
  obtain rfl : args = #[v0, v1, v2] := by cases args; simp_all
  obtain ⟨x0, cs0, rfl, hr0, wf0⟩ := arg_struct o39 Tryd.underlying39 (hval 0 39 v0 rfl rfl) h0
  obtain ⟨_, _, rfl, ⟨u0_1, rfl, u0g1⟩, ⟨u0_2, rfl, u0g2⟩⟩ := hr0
  obtain ⟨x1, rfl, wf1⟩ := arg_int Tryd.underlying3 (hval 1 3 v1 rfl rfl) h1
  obtain ⟨x2, g2, wf2⟩ := arg_slice o40 Tryd.underlying40 (hval 2 40 v2 rfl rfl) h2
  clear hA0 hA hval0
  refine Calls.mono (portlaw2_LevelChooses_c W (fun _ _ => trivial) x0 u0_1 u0g1 u0_2 u0g2 x1 x2 v2 g2 (chooses_true x0 x1 x2 (fun l hl => ⟨((wf0.2.2 l hl).1), ((wf0.2.2 l hl).2.2.1)⟩) wf0.1.1)) ?_
  rintro e W' ⟨v, rfl, rfl, hk⟩
  exact ⟨_, rfl, law_post rfl rfl rfl rfl rfl Tryd.underlying4 laidOut tys hW' hk⟩

theorem said : Rows.LevelChoosesSaid :=
  OpenClaim.holds_of_wide 5 Tryd.f5 rfl rfl rfl rfl rfl rfl rfl ⟨rfl, rfl, rfl, rfl, rfl⟩ rfl rfl rfl rfl rfl (by kernel_rfl) Tryd.func5 (by kernel_rfl)
    (of_decide_eq_true (by kernel_rfl)) (by unfold Func.isWrapper; first | (rw [if_pos (by decide +kernel)]; kernel_rfl) | (rw [if_neg (by decide +kernel)]; exact ⟨rfl, rfl⟩))
    (fun os started H enc _ => lifted os started H enc)

theorem proved : Rows.LevelChoosesCardSaid :=
  Claim7.holds_tied_plain_at .later [] [.data, .pinned] true (true, "163bad40c9e988fd1ee8106f7031f293d746c4f5fae758c5da371ccf2216c9aa") true
    said (fun _ h => by cases h) (by kernel_rfl) (fun _ h => by cases h) levelChooses_row_tie rfl ⟨rfl, rfl⟩ (by kernel_rfl) rfl
    (fun f fn hf hfn => by
      obtain rfl : f = 5 := Option.some.inj ((show Tryd.prog.funcNamed "porterslodge/portlaw2.LevelChooses" = some 5 by kernel_rfl).symm.trans hf) |>.symm
      obtain rfl : fn = Tryd.f5 := (Option.some.inj (Tryd.func5.symm.trans hfn)).symm
      exact ⟨by kernel_rfl, fun j t ht => by
        rw [Tryd.params5] at ht
        have hm : t ∈ [39, 3, 40] := by simpa using Array.mem_of_getElem? ht
        have hall : ([39, 3, 40].all fun u => !Tryd.prog.wantsStandIn u) = true := by kernel_rfl
        exact (show Tryd.prog.wantsStandIn t = false by simpa using List.all_eq_true.1 hall t hm)⟩)
    (by kernel_rfl)
#print axioms proved
end Go.Proofs.YtcokjipcmpfgbaaDoor.LevelChooses
