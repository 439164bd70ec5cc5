/-
  LevelChecks: for every input the law returns true, and the input reads as it did. No condition.
-/
import Derived.Test.YtpkkbbcflmbjeaaDoorRows
import Derived.Test.YtpkkbbcflmbjeaaDoorLevelChecksW2
import Derived.Test.YtpkkbbcflmbjeaaDoorLevelChecksLvlName
import Derived.Test.YtpkkbbcflmbjeaaDoorLevelChecksLowRune
import Derived.Test.YtpkkbbcflmbjeaaDoorLevelChecksLvlPolicy
import Derived.Test.YtpkkbbcflmbjeaaDoorLevelChecksLvlCheck
import Derived.Test.YtpkkbbcflmbjeaaDoorLevelChecksLvlOk
import Derived.Test.YtpkkbbcflmbjeaaDoorLevelChecksTextBase
import Derived.Test.YtpkkbbcflmbjeaaDoorLevelChecksTextLine
import Derived.Test.YtpkkbbcflmbjeaaDoorLevelChecksTextLines
import Derived.Test.YtpkkbbcflmbjeaaDoorLevelChecksLevelChecks
import Derived.Test.YtpkkbbcflmbjeaaDoorGf
import Derived.Test.YtpkkbbcflmbjeaaDoorTie
import Derived.Test.YtpkkbbcflmbjeaaDoorCards
import Derived.SevenTiedAt
import Derived.LaidMore
import Derived.Lay
import Derived.Stop.Joined
import Derived.Test.YtpkkbbcflmbjeaaDoorGb
namespace Go.Proofs.YtpkkbbcflmbjeaaDoor.LevelChecks
open Go Go.ChangeShapes Go.WideShapes Go.ChangeAt Go.RowKit Go.Gw Go.Pu Go.Proofs.YtpkkbbcflmbjeaaDoor.M Go.Proofs.YtpkkbbcflmbjeaaDoor.W
set_option linter.unusedVariables false
set_option linter.unusedSimpArgs false

theorem own : ownKnob Tryd.prog.godebug = none := by kernel_rfl
theorem laidOut : laidOutB Tryd.prog = true := by kernel_rfl
theorem tys : (Tryd.f3.params.toList.all fun t => Tryd.prog.readableRec t && decide (t < Tryd.prog.types.size)) = true := by kernel_rfl
theorem cells25 : Tryd.prog.cellsOf 25 = 2 := by kernel_rfl
theorem cells23 : Tryd.prog.cellsOf 23 = 1 := by kernel_rfl
theorem cells44 : Tryd.prog.cellsOf 44 = 3 := by kernel_rfl
theorem cells42 : Tryd.prog.cellsOf 42 = 1 := by kernel_rfl
theorem cells52 : Tryd.prog.cellsOf 52 = 3 := by kernel_rfl
theorem cells41 : Tryd.prog.cellsOf 41 = 1 := by kernel_rfl
theorem cells48 : Tryd.prog.cellsOf 48 = 4 := by kernel_rfl
theorem cells46 : Tryd.prog.cellsOf 46 = 3 := by kernel_rfl
theorem cells9 : Tryd.prog.cellsOf 9 = 1 := by kernel_rfl
theorem cells22 : Tryd.prog.cellsOf 22 = 1 := by kernel_rfl
theorem cells3 : Tryd.prog.cellsOf 3 = 1 := by kernel_rfl
theorem o3 : Opn Tryd.prog 3 Int := Opn_int Tryd.underlying3
theorem o22 : Opn Tryd.prog 22 (List Int) := Opn_slice Tryd.underlying22 o3 cells3 (by decide)
theorem o9 : Opn Tryd.prog 9 ByteArray := Opn_str Tryd.underlying9
theorem o46 : Opn Tryd.prog 46 api_Value := Opn_struct (β := Int × Int × ByteArray) (fun (x : api_Value) => (x.kind, x.int, x.text)) (fun y => (⟨y.1, y.2.1, y.2.2⟩ : api_Value)) (fun _ => rfl) Tryd.underlying46 cells46 (OpnL_cons rfl cells3 o3 (OpnL_cons rfl cells3 o3 (OpnL_one rfl cells9 o9)))
theorem o48 : Opn Tryd.prog 48 level_Test := Opn_struct (β := Int × api_Value) (fun (x : level_Test) => (x.field, x.value)) (fun y => (⟨y.1, y.2⟩ : level_Test)) (fun _ => rfl) Tryd.underlying48 cells48 (OpnL_cons rfl cells3 o3 (OpnL_one rfl cells46 o46))
theorem o41 : Opn Tryd.prog 41 (List level_Test) := Opn_slice Tryd.underlying41 o48 cells48 (by decide)
theorem o52 : Opn Tryd.prog 52 level_Target := Opn_struct (β := Int × Int × Int) (fun (x : level_Target) => (x.kind, x.minutes, x.calendar)) (fun y => (⟨y.1, y.2.1, y.2.2⟩ : level_Target)) (fun _ => rfl) Tryd.underlying52 cells52 (OpnL_cons rfl cells3 o3 (OpnL_cons rfl cells3 o3 (OpnL_one rfl cells3 o3)))
theorem o42 : Opn Tryd.prog 42 (List level_Target) := Opn_slice Tryd.underlying42 o52 cells52 (by decide)
theorem o44 : Opn Tryd.prog 44 level_Level := Opn_struct (β := ByteArray × (List level_Test) × (List level_Target)) (fun (x : level_Level) => (x.name, x.tests, x.targets)) (fun y => (⟨y.1, y.2.1, y.2.2⟩ : level_Level)) (fun _ => rfl) Tryd.underlying44 cells44 (OpnL_cons rfl cells9 o9 (OpnL_cons rfl cells41 o41 (OpnL_one rfl cells42 o42)))
theorem o23 : Opn Tryd.prog 23 (List level_Level) := Opn_slice Tryd.underlying23 o44 cells44 (by decide)
theorem o25 : Opn Tryd.prog 25 level_Policy := Opn_struct (β := (List Int) × (List level_Level)) (fun (x : level_Policy) => (x.pauses, x.levels)) (fun y => (⟨y.1, y.2⟩ : level_Policy)) (fun _ => rfl) Tryd.underlying25 cells25 (OpnL_cons rfl cells22 o22 (OpnL_one rfl cells23 o23))

set_option maxRecDepth 100000 in
theorem lifted (os : Os) (started : os.Started) (H : Type) (enc : TypeId × Value → H) :
    ReturnsInHanded {} Tryd.checked os 3 .any (fun w args => (Rows.levelChecksSpec.pre enc Tryd.prog Tryd.f3 Rows.levelChecksRow.domain false w args ∧ laidMetH Tryd.prog Rows.levelChecksRow.laid w) ∧ sizedMet enc Tryd.prog Tryd.f3 (OpenSpec.ofChange Rows.levelChecksSpec) false w args) (Rows.levelChecksSpec.post enc Tryd.prog Tryd.f3 false true false false) := by
  refine returnsInHanded_of_change_shape (C := Tryd.checked) (X := fun w _ => laidMetH Tryd.prog Rows.levelChecksRow.laid w) (fun _ _ _ hh h => h.of_heap hh) own started (by kernel_rfl) Tryd.func3
    (ChangeSpec.witness_shaped (enc := enc) (C := Tryd.checked) (os := os) (X := fun w _ => laidMetH Tryd.prog Rows.levelChecksRow.laid w) false (World.laidAll Tryd.prog os Rows.levelChecksRow.laid) #[.agg #[.slice none 0 0, .slice none 0 0]] 8 (World.laidAll_os _ _ _) (World.shaped_of_ZipB (by kernel_rfl) (by kernel_rfl)) (by kernel_rfl) (by kernel_rfl) (by kernel_rfl)
      (by rw [MakeChecks.laidMetH_plain _ _ _ (by kernel_rfl)]; exact laidMet_laidAll _ (by kernel_rfl) (by kernel_rfl))) ?_
  intro W base args ds gs before hval0 hW _ _ hL _ hshape
  have hval : ∀ (j : Nat) t v, Tryd.f3.params[j]? = some t → args[j]? = some v → Value.okWide Tryd.prog W .any base t v := hval0
  have hgs : gs = [] := by
    obtain ⟨p, q, _, hV, _⟩ := hW
    cases gs with
    | nil => rfl
    | cons g r => exact hV.elim
  subst hgs
  have hW' := hW
  obtain ⟨p, q, hA0, hV, rfl, hfz, hnd⟩ := hW
  have hA : DataW.TrodAll enc Tryd.prog W 0 (fun _ => true) true Tryd.f3.params.toList args.toList ds p := hA0
  rw [Tryd.params3] at hA hval
  obtain ⟨v0, vs0, d0, ds0, p0, q0, hargs, rfl, rfl, h0, r0⟩ := trodAll_cons hA
  obtain ⟨rfl, rfl, rfl⟩ := trodAll_nil r0
  obtain rfl : args = #[v0] := by cases args; simp_all
  obtain ⟨x0, cs0, rfl, hr0, wf0⟩ := arg_struct o25 Tryd.underlying25 (hval 0 25 v0 rfl rfl) h0
  obtain ⟨_, _, rfl, ⟨u0_1, rfl, u0g1⟩, ⟨u0_2, rfl, u0g2⟩⟩ := hr0
  clear hA0 hA hval0
  refine Calls.mono (portlaw2_LevelChecks_c W (fun _ _ => trivial) (show Fz Tryd_FR _ _ from ⟨(Tb.laid hL (by kernel_rfl) (by simp only [Rows.levelChecksRow, List.mem_cons]; first | exact .inl rfl | exact .inr (.inl rfl) | exact .inr (.inr (.inl rfl)) | exact .inr (.inr (.inr (.inl rfl))) | exact .inr (.inr (.inr (.inr (.inl rfl))))) (g := 2) (by kernel_rfl) (by kernel_rfl) Tryd.underlying92 Tryd.underlying76 (by kernel_rfl) (by kernel_rfl)), (Gs.laid (n := "porterslodge/portref2.valueWords") (ws := portref2_valueWords) hL (by kernel_rfl) (List.mem_iff_getElem?.2 ⟨4, rfl⟩) (g := 0) (t := 53) (e := 9) (by kernel_rfl) (by kernel_rfl) Tryd.underlying53 Tryd.underlying9 (by kernel_rfl) (by decide)), (Gs.laid (n := "porterslodge/portref2.targetWords") (ws := portref2_targetWords) hL (by kernel_rfl) (List.mem_iff_getElem?.2 ⟨5, rfl⟩) (g := 1) (t := 53) (e := 9) (by kernel_rfl) (by kernel_rfl) Tryd.underlying53 Tryd.underlying9 (by kernel_rfl) (by decide))⟩) x0 u0_1 u0g1 u0_2 u0g2 (checks_true x0 (fun l hl => ⟨((wf0.2.2 l hl).1), ((wf0.2.2 l hl).2.2.1)⟩) wf0.1.1)) ?_
  rintro e W' ⟨v, rfl, rfl, hk⟩
  exact ⟨_, rfl, law_post rfl rfl rfl rfl rfl Tryd.underlying4 laidOut tys hW' hk.below⟩

theorem said : Rows.LevelChecksSaid :=
  OpenClaim.holds_of_wide 3 Tryd.f3 rfl rfl rfl rfl rfl rfl rfl ⟨rfl, rfl, rfl, rfl, rfl⟩ rfl rfl rfl rfl rfl (by kernel_rfl) Tryd.func3 (by kernel_rfl)
    (of_decide_eq_true (by kernel_rfl)) (by unfold Func.isWrapper; first | (rw [if_pos (by decide +kernel)]; kernel_rfl) | (rw [if_neg (by decide +kernel)]; exact ⟨rfl, rfl⟩))
    (fun os started H enc _ => lifted os started H enc)

theorem proved : Rows.LevelChecksCardSaid :=
  Claim7.holds_tied_plain_at .later [] [.data, .data, .data, .data, .widerDeep, .widerDeep, .pinned] true (true, "a4687bb6f00b340ffeeb87238d68e5e0637ab73ad99b7f95968081b1f4ea5ad0") true
    said (fun _ h => by cases h) (by kernel_rfl) (fun _ h => by cases h) levelChecks_row_tie rfl ⟨rfl, rfl⟩ (by kernel_rfl) rfl
    (fun f fn hf hfn => by
      obtain rfl : f = 3 := Option.some.inj ((show Tryd.prog.funcNamed "porterslodge/portlaw2.LevelChecks" = some 3 by kernel_rfl).symm.trans hf) |>.symm
      obtain rfl : fn = Tryd.f3 := (Option.some.inj (Tryd.func3.symm.trans hfn)).symm
      exact ⟨by kernel_rfl, fun j t ht => by
        rw [Tryd.params3] at ht
        have hm : t ∈ [25] := by simpa using Array.mem_of_getElem? ht
        have hall : ([25].all fun u => !Tryd.prog.wantsStandIn u) = true := by kernel_rfl
        exact (show Tryd.prog.wantsStandIn t = false by simpa using List.all_eq_true.1 hall t hm)⟩)
    (by kernel_rfl)
#print axioms proved
end Go.Proofs.YtpkkbbcflmbjeaaDoor.LevelChecks
