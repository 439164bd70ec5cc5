/-
  LevelReads: for every input the law returns true, and the input reads as it did. No condition.
-/
import Derived.Test.YtcbebdcofipcpaaGreatDoorRows
import Derived.Test.YtcbebdcofipcpaaGreatDoorLevelReadsW4
import Derived.Test.YtcbebdcofipcpaaGreatDoorLevelReadsNumText
import Derived.Test.YtcbebdcofipcpaaGreatDoorLevelReadsNameBase0
import Derived.Test.YtcbebdcofipcpaaGreatDoorLevelReadsCutText
import Derived.Test.YtcbebdcofipcpaaGreatDoorLevelReadsCutVal
import Derived.Test.YtcbebdcofipcpaaGreatDoorLevelReadsLvlNumber
import Derived.Test.YtcbebdcofipcpaaGreatDoorLevelReadsSplitText
import Derived.Test.YtcbebdcofipcpaaGreatDoorLevelReadsPatchBase
import Derived.Test.YtcbebdcofipcpaaGreatDoorLevelReadsLineBase
import Derived.Test.YtcbebdcofipcpaaGreatDoorLevelReadsLvlLine
import Derived.Test.YtcbebdcofipcpaaGreatDoorLevelReadsLvlName
import Derived.Test.YtcbebdcofipcpaaGreatDoorLevelReadsLowRune
import Derived.Test.YtcbebdcofipcpaaGreatDoorLevelReadsLvlPolicy
import Derived.Test.YtcbebdcofipcpaaGreatDoorLevelReadsLvlCheck
import Derived.Test.YtcbebdcofipcpaaGreatDoorLevelReadsLevelReads
import Derived.Test.YtcbebdcofipcpaaGreatDoorGf
import Derived.Test.YtcbebdcofipcpaaGreatDoorTie
import Derived.Test.YtcbebdcofipcpaaGreatDoorCards
import Derived.SevenTiedAt
import Derived.LaidMore
import Derived.Lay
import Derived.Stop.Joined
import Derived.Test.YtcbebdcofipcpaaGreatDoorGb
import Derived.Test.YtcbebdcofipcpaaGreatDoorHj
namespace Go.Proofs.YtcbebdcofipcpaaGreatDoor.LevelReads
open Go Go.ChangeShapes Go.WideShapes Go.ChangeAt Go.RowKit Go.Gw Go.Pu Go.Proofs.YtcbebdcofipcpaaGreatDoor.M Go.Proofs.YtcbebdcofipcpaaGreatDoor.W
set_option linter.unusedVariables false
set_option linter.unusedSimpArgs false

theorem own : ownKnob Tryz.prog.godebug = none := by kernel_rfl
theorem laidOut : laidOutB Tryz.prog = true := by kernel_rfl
theorem tys : (Tryz.f3.params.toList.all fun t => Tryz.prog.readableRec t && decide (t < Tryz.prog.types.size)) = true := by kernel_rfl
theorem cells9 : Tryz.prog.cellsOf 9 = 1 := by kernel_rfl
theorem o9 : Opn Tryz.prog 9 ByteArray := Opn_str Tryz.underlying9

set_option maxRecDepth 100000 in
theorem lifted (os : Os) (started : os.Started) (H : Type) (enc : TypeId × Value → H) :
    ReturnsInHanded {} Tryz.checked os 3 .any (fun w args => (Rows.levelReadsSpec.pre enc Tryz.prog Tryz.f3 Rows.levelReadsRow.domain false w args ∧ laidMetH Tryz.prog Rows.levelReadsRow.laid w) ∧ sizedMet enc Tryz.prog Tryz.f3 (OpenSpec.ofChange Rows.levelReadsSpec) false w args) (Rows.levelReadsSpec.post enc Tryz.prog Tryz.f3 false true false false) := by
  refine returnsInHanded_of_change_shape (C := Tryz.checked) (X := fun w _ => laidMetH Tryz.prog Rows.levelReadsRow.laid w) (fun _ _ _ hh h => h.of_heap hh) own started (by kernel_rfl) Tryz.func3
    (ChangeSpec.witness_shaped (enc := enc) (C := Tryz.checked) (os := os) (X := fun w _ => laidMetH Tryz.prog Rows.levelReadsRow.laid w) false (World.laidAll Tryz.prog os Rows.levelReadsRow.laid) #[.string ByteArray.empty] 8 (World.laidAll_os _ _ _) (World.shaped_of_ZipB (by kernel_rfl) (by kernel_rfl)) (by kernel_rfl) (by kernel_rfl) (by kernel_rfl)
      (by rw [MakeChecks.laidMetH_plain _ _ _ (by kernel_rfl)]; exact laidMet_laidAll _ (by kernel_rfl) (by kernel_rfl))) ?_
  intro W base args ds gs before hval0 hW _ hsz0 hL _ hshape
  have hsz : (DataW.weightsEach Tryz.prog (Tryz.f3.params.toList ++ Rows.levelReadsSpec.plain.varTypes Tryz.prog) (ds ++ gs)).all (· ≤ reachBytes) = true := hsz0
  clear hsz0
  have hval : ∀ (j : Nat) t v, Tryz.f3.params[j]? = some t → args[j]? = some v → Value.okWide Tryz.prog W .any base t v := hval0
  have hgs : gs = [] := by
    obtain ⟨p, q, _, hV, _⟩ := hW
    cases gs with
    | nil => rfl
    | cons g r => exact hV.elim
  subst hgs
  have hW' := hW
  obtain ⟨p, q, hA0, hV, rfl, hfz, hnd⟩ := hW
  have hA : DataW.TrodAll enc Tryz.prog W 0 (fun _ => true) true Tryz.f3.params.toList args.toList ds p := hA0
  rw [Tryz.params3] at hA hval hsz
  obtain ⟨v0, vs0, d0, ds0, p0, q0, hargs, rfl, rfl, h0, r0⟩ := trodAll_cons hA
  obtain ⟨rfl, rfl, rfl⟩ := trodAll_nil r0
  obtain rfl : args = #[v0] := by cases args; simp_all
  obtain ⟨x0, rfl, wf0⟩ := arg_str Tryz.underlying9 (hval 0 9 v0 rfl rfl) h0
  clear hA0 hA hval0
  have sz0 := str_size hsz (j := 0) (t := 9) rfl (congrArg some (str_datum Tryz.underlying9 h0))
  refine Calls.mono (portlaw2_LevelReads_c W (fun _ _ => trivial) (show Fz Tryz_FR _ _ from ⟨(Tb.laid hL (by kernel_rfl) (by simp only [Rows.levelReadsRow, List.mem_cons]; first | exact .inl rfl | exact .inr (.inl rfl) | exact .inr (.inr (.inl rfl)) | exact .inr (.inr (.inr (.inl rfl))) | exact .inr (.inr (.inr (.inr (.inl rfl))))) (g := 7) (by kernel_rfl) (by kernel_rfl) Tryz.underlying235 Tryz.underlying214 (by kernel_rfl) (by kernel_rfl)), (Mx.shape hshape (g := 2) (of_decide_eq_true (by kernel_rfl)) (zero := #[.int .i64 0]) (t := 3) (by kernel_rfl) rfl (by kernel_rfl) (by kernel_rfl) Tryz.underlying3), (Er.laid (n := "strconv.ErrSyntax") (nm := "*errors.errorString") (d := .ptr (.agg [.lit (.string [105, 110, 118, 97, 108, 105, 100, 32, 115, 121, 110, 116, 97, 120])])) hL (by kernel_rfl) (List.mem_iff_getElem?.2 ⟨5, rfl⟩) (g := 5) (by kernel_rfl) (by kernel_rfl) Tryz.underlying172), (Er.laid (n := "strconv.ErrRange") (nm := "*errors.errorString") (d := .ptr (.agg [.lit (.string [118, 97, 108, 117, 101, 32, 111, 117, 116, 32, 111, 102, 32, 114, 97, 110, 103, 101])])) hL (by kernel_rfl) (List.mem_iff_getElem?.2 ⟨4, rfl⟩) (g := 6) (by kernel_rfl) (by kernel_rfl) Tryz.underlying172), (Gs.laid (n := "porterslodge/portref2.targetWords") (ws := portref2_targetWords) hL (by kernel_rfl) (List.mem_iff_getElem?.2 ⟨7, rfl⟩) (g := 0) (t := 35) (e := 9) (by kernel_rfl) (by kernel_rfl) Tryz.underlying35 Tryz.underlying9 (by kernel_rfl) (by decide)), (Gs.laid (n := "porterslodge/portref2.valueWords") (ws := portref2_valueWords) hL (by kernel_rfl) (List.mem_iff_getElem?.2 ⟨6, rfl⟩) (g := 1) (t := 35) (e := 9) (by kernel_rfl) (by kernel_rfl) Tryz.underlying35 Tryz.underlying9 (by kernel_rfl) (by decide))⟩) x0 (reads_true x0)) ?_
  rintro e W' ⟨v, rfl, rfl, hk⟩
  exact ⟨_, rfl, law_post rfl rfl rfl rfl rfl Tryz.underlying4 laidOut tys hW' hk.below⟩

theorem said : Rows.LevelReadsSaid :=
  OpenClaim.holds_of_wide 3 Tryz.f3 rfl rfl rfl rfl rfl rfl rfl ⟨rfl, rfl, rfl, rfl, rfl⟩ rfl rfl rfl rfl rfl (by kernel_rfl) Tryz.func3 (by kernel_rfl)
    (of_decide_eq_true (by kernel_rfl)) (by unfold Func.isWrapper; first | (rw [if_pos (by decide +kernel)]; kernel_rfl) | (rw [if_neg (by decide +kernel)]; exact ⟨rfl, rfl⟩))
    (fun os started H enc _ => lifted os started H enc)

theorem proved : Rows.LevelReadsCardSaid :=
  Claim7.holds_tied_plain_at .later [] [.data, .data, .data, .data, .sentinel, .sentinel, .widerDeep, .widerDeep, .pinned] true (true, "e9620e22b03c7c2b29d79c4158461b04a47080acfcea3a0078c64ebcf37ea4f4") true
    said (fun _ h => by cases h) (by kernel_rfl) (fun _ h => by cases h) levelReads_row_tie rfl ⟨rfl, rfl⟩ (by kernel_rfl) rfl
    (fun f fn hf hfn => by
      obtain rfl : f = 3 := Option.some.inj ((show Tryz.prog.funcNamed "porterslodge/portlaw2.LevelReads" = some 3 by kernel_rfl).symm.trans hf) |>.symm
      obtain rfl : fn = Tryz.f3 := (Option.some.inj (Tryz.func3.symm.trans hfn)).symm
      exact ⟨by kernel_rfl, fun j t ht => by
        rw [Tryz.params3] at ht
        have hm : t ∈ [9] := by simpa using Array.mem_of_getElem? ht
        have hall : ([9].all fun u => !Tryz.prog.wantsStandIn u) = true := by kernel_rfl
        exact (show Tryz.prog.wantsStandIn t = false by simpa using List.all_eq_true.1 hall t hm)⟩)
    (by kernel_rfl)
#print axioms proved
end Go.Proofs.YtcbebdcofipcpaaGreatDoor.LevelReads
