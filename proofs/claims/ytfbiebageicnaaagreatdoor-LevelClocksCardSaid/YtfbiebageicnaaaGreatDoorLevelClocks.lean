import Derived.Test.YtfbiebageicnaaaGreatDoorRows
import Derived.Test.YtfbiebageicnaaaGreatDoorLevelClocksW6
import Derived.Test.YtfbiebageicnaaaGreatDoorLevelClocksLvlName
import Derived.Test.YtfbiebageicnaaaGreatDoorLevelClocksLowRune
import Derived.Test.YtfbiebageicnaaaGreatDoorLevelClocksLvlPolicy
import Derived.Test.YtfbiebageicnaaaGreatDoorLevelClocksLvlCheck
import Derived.Test.YtfbiebageicnaaaGreatDoorLevelClocksLvlOk
import Derived.Test.YtfbiebageicnaaaGreatDoorLevelClocksLclHist
import Derived.Test.YtfbiebageicnaaaGreatDoorLevelClocksLclStep
import Derived.Test.YtfbiebageicnaaaGreatDoorLevelClocksLclTurn
import Derived.Test.YtfbiebageicnaaaGreatDoorLevelClocksLclPair
import Derived.Test.YtfbiebageicnaaaGreatDoorLevelClocksMapBase
import Derived.Test.YtfbiebageicnaaaGreatDoorLevelClocksLclBody
import Derived.Test.YtfbiebageicnaaaGreatDoorLevelClocksLclBegin
import Derived.Test.YtfbiebageicnaaaGreatDoorLevelClocksLvlIndex
import Derived.Test.YtfbiebageicnaaaGreatDoorLevelClocksLclPoint
import Derived.Test.YtfbiebageicnaaaGreatDoorLevelClocksLevelClocks
import Derived.Test.YtfbiebageicnaaaGreatDoorGf
import Derived.Test.YtfbiebageicnaaaGreatDoorTie
import Derived.Test.YtfbiebageicnaaaGreatDoorCards
import Derived.SevenTiedAt
import Derived.LaidMore
import Derived.Lay
import Derived.Stop.Joined
namespace Go.Proofs.YtfbiebageicnaaaGreatDoor.LevelClocks
open Go Go.ChangeShapes Go.WideShapes Go.ChangeAt Go.RowKit Go.Gw Go.Pu Go.Proofs.YtfbiebageicnaaaGreatDoor.M Go.Proofs.YtfbiebageicnaaaGreatDoor.W
set_option linter.unusedVariables false
set_option linter.unusedSimpArgs false
theorem own : ownKnob Tryz.prog.godebug = none := by kernel_rfl
theorem laidOut : laidOutB Tryz.prog = true := by kernel_rfl
theorem tys : (Tryz.f3.params.toList.all fun t => Tryz.prog.readableRec t && decide (t < Tryz.prog.types.size)) = true := by kernel_rfl
theorem cells41 : Tryz.prog.cellsOf 41 = 6 := by kernel_rfl
theorem cells39 : Tryz.prog.cellsOf 39 = 1 := by kernel_rfl
theorem cells25 : Tryz.prog.cellsOf 25 = 2 := by kernel_rfl
theorem cells23 : Tryz.prog.cellsOf 23 = 1 := by kernel_rfl
theorem cells147 : Tryz.prog.cellsOf 147 = 3 := by kernel_rfl
theorem cells145 : Tryz.prog.cellsOf 145 = 1 := by kernel_rfl
theorem cells49 : Tryz.prog.cellsOf 49 = 3 := by kernel_rfl
theorem cells144 : Tryz.prog.cellsOf 144 = 1 := by kernel_rfl
theorem cells152 : Tryz.prog.cellsOf 152 = 4 := by kernel_rfl
theorem cells150 : Tryz.prog.cellsOf 150 = 3 := by kernel_rfl
theorem cells9 : Tryz.prog.cellsOf 9 = 1 := by kernel_rfl
theorem cells22 : Tryz.prog.cellsOf 22 = 1 := by kernel_rfl
theorem cells3 : Tryz.prog.cellsOf 3 = 1 := by kernel_rfl
theorem o3 : Opn Tryz.prog 3 Int := Opn_int Tryz.underlying3
theorem o22 : Opn Tryz.prog 22 (List Int) := Opn_slice Tryz.underlying22 o3 cells3 (by decide)
theorem o9 : Opn Tryz.prog 9 ByteArray := Opn_str Tryz.underlying9
theorem o150 : Opn Tryz.prog 150 api_Value := Opn_struct (β := Int × Int × ByteArray) (fun (x : api_Value) => (x.kind, x.int, x.text)) (fun y => (⟨y.1, y.2.1, y.2.2⟩ : api_Value)) (fun _ => rfl) Tryz.underlying150 cells150 (OpnL_cons rfl cells3 o3 (OpnL_cons rfl cells3 o3 (OpnL_one rfl cells9 o9)))
theorem o152 : Opn Tryz.prog 152 level_Test := Opn_struct (β := Int × api_Value) (fun (x : level_Test) => (x.field, x.value)) (fun y => (⟨y.1, y.2⟩ : level_Test)) (fun _ => rfl) Tryz.underlying152 cells152 (OpnL_cons rfl cells3 o3 (OpnL_one rfl cells150 o150))
theorem o144 : Opn Tryz.prog 144 (List level_Test) := Opn_slice Tryz.underlying144 o152 cells152 (by decide)
theorem o49 : Opn Tryz.prog 49 level_Target := Opn_struct (β := Int × Int × Int) (fun (x : level_Target) => (x.kind, x.minutes, x.calendar)) (fun y => (⟨y.1, y.2.1, y.2.2⟩ : level_Target)) (fun _ => rfl) Tryz.underlying49 cells49 (OpnL_cons rfl cells3 o3 (OpnL_cons rfl cells3 o3 (OpnL_one rfl cells3 o3)))
theorem o145 : Opn Tryz.prog 145 (List level_Target) := Opn_slice Tryz.underlying145 o49 cells49 (by decide)
theorem o147 : Opn Tryz.prog 147 level_Level := Opn_struct (β := ByteArray × (List level_Test) × (List level_Target)) (fun (x : level_Level) => (x.name, x.tests, x.targets)) (fun y => (⟨y.1, y.2.1, y.2.2⟩ : level_Level)) (fun _ => rfl) Tryz.underlying147 cells147 (OpnL_cons rfl cells9 o9 (OpnL_cons rfl cells144 o144 (OpnL_one rfl cells145 o145)))
theorem o23 : Opn Tryz.prog 23 (List level_Level) := Opn_slice Tryz.underlying23 o147 cells147 (by decide)
theorem o25 : Opn Tryz.prog 25 level_Policy := Opn_struct (β := (List Int) × (List level_Level)) (fun (x : level_Policy) => (x.pauses, x.levels)) (fun y => (⟨y.1, y.2⟩ : level_Policy)) (fun _ => rfl) Tryz.underlying25 cells25 (OpnL_cons rfl cells22 o22 (OpnL_one rfl cells23 o23))
theorem o39 : Opn Tryz.prog 39 (List api_Value) := Opn_slice Tryz.underlying39 o150 cells150 (by decide)
theorem o41 : Opn Tryz.prog 41 level_Point := Opn_struct (β := Int × Int × Int × Int × Int × (List api_Value)) (fun (x : level_Point) => (x.at_, x.kind, x.who, x.status, x.priority, x.values)) (fun y => (⟨y.1, y.2.1, y.2.2.1, y.2.2.2.1, y.2.2.2.2.1, y.2.2.2.2.2⟩ : level_Point)) (fun _ => rfl) Tryz.underlying41 cells41 (OpnL_cons rfl cells3 o3 (OpnL_cons rfl cells3 o3 (OpnL_cons rfl cells3 o3 (OpnL_cons rfl cells3 o3 (OpnL_cons rfl cells3 o3 (OpnL_one rfl cells39 o39))))))
theorem o26 : Opn Tryz.prog 26 (List level_Point) := Opn_slice Tryz.underlying26 o41 cells41 (by decide)
set_option maxRecDepth 100000 in
theorem lifted (os : Os) (started : os.Started) (H : Type) (enc : TypeId × Value → H) :
  ReturnsInHanded {} Tryz.checked os 3 .any (fun w args => (Rows.levelClocksSpec.pre enc Tryz.prog Tryz.f3 Rows.levelClocksRow.domain false w args ∧ laidMetH Tryz.prog Rows.levelClocksRow.laid w) ∧ sizedMet enc Tryz.prog Tryz.f3 (OpenSpec.ofChange Rows.levelClocksSpec) false w args) (Rows.levelClocksSpec.post enc Tryz.prog Tryz.f3 false true false false) := by
 refine returnsInHanded_of_change_and (C := Tryz.checked) (X := fun w _ => laidMetH Tryz.prog Rows.levelClocksRow.laid w) (fun _ _ _ hh h => h.of_heap hh) own started (by kernel_rfl) Tryz.func3
  (ChangeSpec.witness_shaped (enc := enc) (C := Tryz.checked) (os := os) (X := fun w _ => laidMetH Tryz.prog Rows.levelClocksRow.laid w) false (World.laidAll Tryz.prog os Rows.levelClocksRow.laid) #[.agg #[.slice none 0 0, .slice none 0 0], .slice none 0 0] 8 (World.laidAll_os _ _ _) (World.shaped_of_ZipB (by kernel_rfl) (by kernel_rfl)) (by kernel_rfl) (by kernel_rfl) (by kernel_rfl)
   (by rw [MakeChecks.laidMetH_plain _ _ _ (by kernel_rfl)]; exact laidMet_laidAll _ (by kernel_rfl) (by kernel_rfl))) ?_
 intro W base args ds gs before hval0 hW _ _ hL _
 have hval : ∀ (j : Nat) t v, Tryz.f3.params[j]? = some t → args[j]? = some v → Value.okWide Tryz.prog W .any base t v := hval0
 have hgs : gs = [] := by
  obtain ⟨p, q, _, hV, _⟩ := hW
  cases gs with
  | nil => rfl
  | cons g r => exact hV.elim
 subst hgs
 have hW' := hW
 obtain ⟨p, q, hA0, hV, rfl, hfz, hnd⟩ := hW
 have hA : DataW.TrodAll enc Tryz.prog W 0 (fun _ => true) true Tryz.f3.params.toList args.toList ds p := hA0
 rw [Tryz.params3] at hA hval
 obtain ⟨v0, vs0, d0, ds0, p0, q0, hargs, rfl, rfl, h0, r0⟩ := trodAll_cons hA
 obtain ⟨v1, vs1, d1, ds1, p1, q1, rfl, rfl, rfl, h1, r1⟩ := trodAll_cons r0
 obtain ⟨rfl, rfl, rfl⟩ := trodAll_nil r1
 obtain rfl : args = #[v0, v1] := by cases args; simp_all
 obtain ⟨x0, cs0, rfl, hr0, wf0⟩ := arg_struct o25 Tryz.underlying25 (hval 0 25 v0 rfl rfl) h0
 obtain ⟨_, _, rfl, ⟨u0_1, rfl, u0g1⟩, ⟨u0_2, rfl, u0g2⟩⟩ := hr0
 obtain ⟨x1, g1, wf1⟩ := arg_slice o26 Tryz.underlying26 (hval 1 26 v1 rfl rfl) h1
 clear hA0 hA hval0
 refine Calls.mono (portlaw2_LevelClocks_c W (fun _ _ => trivial) x0 u0_1 u0g1 u0_2 u0g2 x1 v1 g1 (clocks_true x0 x1 (fun l hl => ⟨((wf0.2.2 l hl).1), ((wf0.2.2 l hl).2.2.1)⟩) wf0.1.1)) ?_
 rintro e W' ⟨v, rfl, rfl, hk⟩
 exact ⟨_, rfl, law_post rfl rfl rfl rfl rfl Tryz.underlying4 laidOut tys hW' hk.below⟩
theorem said : Rows.LevelClocksSaid :=
 OpenClaim.holds_of_wide 3 Tryz.f3 rfl rfl rfl rfl rfl rfl rfl ⟨rfl, rfl, rfl, rfl, rfl⟩ rfl rfl rfl rfl rfl (by kernel_rfl) Tryz.func3 (by kernel_rfl)
  (of_decide_eq_true (by kernel_rfl)) (by unfold Func.isWrapper; first | (rw [if_pos (by decide +kernel)]; kernel_rfl) | (rw [if_neg (by decide +kernel)]; exact ⟨rfl, rfl⟩))
  (fun os started H enc _ => lifted os started H enc)
theorem proved : Rows.LevelClocksCardSaid :=
 Claim7.holds_tied_plain_at .later [] [.data, .pinned] true (true, "fa70413153ad8c4d6713b0fc6e84376b198bb1f512e64ea8801648c438ca5942") true
  said (fun _ h => by cases h) (by kernel_rfl) (fun _ h => by cases h) levelClocks_row_tie rfl ⟨rfl, rfl⟩ (by kernel_rfl) rfl
  (fun f fn hf hfn => by
   obtain rfl : f = 3 := Option.some.inj ((show Tryz.prog.funcNamed "porterslodge/portlaw2.LevelClocks" = some 3 by kernel_rfl).symm.trans hf) |>.symm
   obtain rfl : fn = Tryz.f3 := (Option.some.inj (Tryz.func3.symm.trans hfn)).symm
   exact ⟨by kernel_rfl, fun j t ht => by
    rw [Tryz.params3] at ht
    have hm : t ∈ [25, 26] := by simpa using Array.mem_of_getElem? ht
    have hall : ([25, 26].all fun u => !Tryz.prog.wantsStandIn u) = true := by kernel_rfl
    exact (show Tryz.prog.wantsStandIn t = false by simpa using List.all_eq_true.1 hall t hm)⟩)
  (by kernel_rfl)
#print axioms proved
end Go.Proofs.YtfbiebageicnaaaGreatDoor.LevelClocks
