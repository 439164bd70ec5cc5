/-
  RatioSums: for every input the law returns true, and the input reads as it did. No condition.
-/
import Derived.Test.YtnnbhehaplphiaaGreatDoorRows
import Derived.Test.YtnnbhehaplphiaaGreatDoorRatioSumsW6
import Derived.Test.YtnnbhehaplphiaaGreatDoorRatioSumsBigA
import Derived.Test.YtnnbhehaplphiaaGreatDoorRatioSumsBigWh
import Derived.Test.YtnnbhehaplphiaaGreatDoorRatioSumsBigBy
import Derived.Test.YtnnbhehaplphiaaGreatDoorRatioSumsBigB
import Derived.Test.YtnnbhehaplphiaaGreatDoorRatioSumsBigRound
import Derived.Test.YtnnbhehaplphiaaGreatDoorRatioSumsBigMain
import Derived.Test.YtnnbhehaplphiaaGreatDoorRatioSumsBigLow
import Derived.Test.YtnnbhehaplphiaaGreatDoorRatioSumsBigQuot
import Derived.Test.YtnnbhehaplphiaaGreatDoorRatioSumsBigDivs
import Derived.Test.YtnnbhehaplphiaaGreatDoorRatioSumsBigGcd
import Derived.Test.YtnnbhehaplphiaaGreatDoorRatioSumsBigC
import Derived.Test.YtnnbhehaplphiaaGreatDoorRatioSumsRatA
import Derived.Test.YtnnbhehaplphiaaGreatDoorRatioSumsRatCheck
import Derived.Test.YtnnbhehaplphiaaGreatDoorRatioSumsRatioSums
import Derived.Test.YtnnbhehaplphiaaGreatDoorGf
import Derived.Test.YtnnbhehaplphiaaGreatDoorTie
import Derived.Test.YtnnbhehaplphiaaGreatDoorCards
import Derived.SevenTiedAt
import Derived.LaidMore
import Derived.Lay
import Derived.Stop.Joined
import Derived.Test.YtnnbhehaplphiaaGreatDoorGb
import Derived.Test.YtnnbhehaplphiaaGreatDoorHj
namespace Go.Proofs.YtnnbhehaplphiaaGreatDoor.RatioSums
open Go Go.ChangeShapes Go.WideShapes Go.ChangeAt Go.RowKit Go.Gw Go.Pu Go.Proofs.YtnnbhehaplphiaaGreatDoor.M Go.Proofs.YtnnbhehaplphiaaGreatDoor.W
set_option linter.unusedVariables false
set_option linter.unusedSimpArgs false

theorem own : ownKnob Tryz.prog.godebug = none := by kernel_rfl
theorem laidOut : laidOutB Tryz.prog = true := by kernel_rfl
theorem tys : (Tryz.f3.params.toList.all fun t => Tryz.prog.readableRec t && decide (t < Tryz.prog.types.size)) = true := by kernel_rfl
theorem cells23 : Tryz.prog.cellsOf 23 = 2 := by kernel_rfl
theorem cells9 : Tryz.prog.cellsOf 9 = 1 := by kernel_rfl
theorem o9 : Opn Tryz.prog 9 ByteArray := Opn_str Tryz.underlying9
theorem o23 : Opn Tryz.prog 23 staff_Ratio := Opn_struct (β := ByteArray × ByteArray) (fun (x : staff_Ratio) => (x.num, x.den)) (fun y => (⟨y.1, y.2⟩ : staff_Ratio)) (fun _ => rfl) Tryz.underlying23 cells23 (OpnL_cons rfl cells9 o9 (OpnL_one rfl cells9 o9))

set_option maxRecDepth 100000 in
theorem lifted (os : Os) (started : os.Started) (H : Type) (enc : TypeId × Value → H) :
    ReturnsInHanded {} Tryz.checked os 3 .any (fun w args => (Rows.ratioSumsSpec.pre enc Tryz.prog Tryz.f3 Rows.ratioSumsRow.domain false w args ∧ laidMetH Tryz.prog Rows.ratioSumsRow.laid w) ∧ sizedMet enc Tryz.prog Tryz.f3 (OpenSpec.ofChange Rows.ratioSumsSpec) false w args) (Rows.ratioSumsSpec.post enc Tryz.prog Tryz.f3 false true false false) := by
  refine returnsInHanded_of_change_shape (C := Tryz.checked) (X := fun w _ => laidMetH Tryz.prog Rows.ratioSumsRow.laid w) (fun _ _ _ hh h => h.of_heap hh) own started (by kernel_rfl) Tryz.func3
    (ChangeSpec.witness_shaped (enc := enc) (C := Tryz.checked) (os := os) (X := fun w _ => laidMetH Tryz.prog Rows.ratioSumsRow.laid w) false (World.laidAll Tryz.prog os Rows.ratioSumsRow.laid) #[.agg #[.string ByteArray.empty, .string ByteArray.empty], .agg #[.string ByteArray.empty, .string ByteArray.empty]] 8 (World.laidAll_os _ _ _) (World.shaped_of_ZipB (by kernel_rfl) (by kernel_rfl)) (by kernel_rfl) (by kernel_rfl) (by kernel_rfl)
      (by rw [MakeChecks.laidMetH_plain _ _ _ (by kernel_rfl)]; exact laidMet_laidAll _ (by kernel_rfl) (by kernel_rfl))) ?_
  intro W base args ds gs before hval0 hW _ hsz0 hL _ hshape
  have hsz : (DataW.weightsEach Tryz.prog (Tryz.f3.params.toList ++ Rows.ratioSumsSpec.plain.varTypes Tryz.prog) (ds ++ gs)).all (· ≤ reachBytes) = true := hsz0
  clear hsz0
  have hval : ∀ (j : Nat) t v, Tryz.f3.params[j]? = some t → args[j]? = some v → Value.okWide Tryz.prog W .any base t v := hval0
  have hgs : gs = [] := by
    obtain ⟨p, q, _, hV, _⟩ := hW
    cases gs with
    | nil => rfl
    | cons g r => exact hV.elim
  subst hgs
  have hW' := hW
  obtain ⟨p, q, hA0, hV, rfl, hfz, hnd⟩ := hW
  have hA : DataW.TrodAll enc Tryz.prog W 0 (fun _ => true) true Tryz.f3.params.toList args.toList ds p := hA0
  rw [Tryz.params3] at hA hval hsz
  obtain ⟨v0, vs0, d0, ds0, p0, q0, hargs, rfl, rfl, h0, r0⟩ := trodAll_cons hA
  obtain ⟨v1, vs1, d1, ds1, p1, q1, rfl, rfl, rfl, h1, r1⟩ := trodAll_cons r0
  obtain ⟨rfl, rfl, rfl⟩ := trodAll_nil r1
  obtain rfl : args = #[v0, v1] := by cases args; simp_all
  obtain ⟨x0, cs0, rfl, hr0, wf0⟩ := arg_struct o23 Tryz.underlying23 (hval 0 23 v0 rfl rfl) h0
  obtain ⟨_, _, rfl, rfl, rfl⟩ := hr0
  obtain ⟨x1, cs1, rfl, hr1, wf1⟩ := arg_struct o23 Tryz.underlying23 (hval 1 23 v1 rfl rfl) h1
  obtain ⟨_, _, rfl, rfl, rfl⟩ := hr1
  clear hA0 hA hval0
  refine Calls.mono (portlaw2_RatioSums_c W (fun _ _ => trivial) (show Fz Tryz_FR _ _ from ⟨(Tb.laid hL (by kernel_rfl) (by simp only [Rows.ratioSumsRow, List.mem_cons]; first | exact .inl rfl | exact .inr (.inl rfl) | exact .inr (.inr (.inl rfl)) | exact .inr (.inr (.inr (.inl rfl))) | exact .inr (.inr (.inr (.inr (.inl rfl))))) (g := 4) (by kernel_rfl) (by kernel_rfl) Tryz.underlying140 Tryz.underlying76 (by kernel_rfl) (by kernel_rfl)), (Er.laid (n := "strconv.ErrSyntax") (nm := "*errors.errorString") (d := .ptr (.agg [.lit (.string [105, 110, 118, 97, 108, 105, 100, 32, 115, 121, 110, 116, 97, 120])])) hL (by kernel_rfl) (List.mem_iff_getElem?.2 ⟨5, rfl⟩) (g := 0) (by kernel_rfl) (by kernel_rfl) Tryz.underlying83), (Er.laid (n := "strconv.ErrRange") (nm := "*errors.errorString") (d := .ptr (.agg [.lit (.string [118, 97, 108, 117, 101, 32, 111, 117, 116, 32, 111, 102, 32, 114, 97, 110, 103, 101])])) hL (by kernel_rfl) (List.mem_iff_getElem?.2 ⟨4, rfl⟩) (g := 1) (by kernel_rfl) (by kernel_rfl) Tryz.underlying83)⟩) x0 x1 (sums_true x0 x1)) ?_
  rintro e W' ⟨v, rfl, rfl, hk⟩
  exact ⟨_, rfl, law_post rfl rfl rfl rfl rfl Tryz.underlying4 laidOut tys hW' hk.below⟩

theorem said : Rows.RatioSumsSaid :=
  OpenClaim.holds_of_wide 3 Tryz.f3 rfl rfl rfl rfl rfl rfl rfl ⟨rfl, rfl, rfl, rfl, rfl⟩ rfl rfl rfl rfl rfl (by kernel_rfl) Tryz.func3 (by kernel_rfl)
    (of_decide_eq_true (by kernel_rfl)) (by unfold Func.isWrapper; first | (rw [if_pos (by decide +kernel)]; kernel_rfl) | (rw [if_neg (by decide +kernel)]; exact ⟨rfl, rfl⟩))
    (fun os started H enc _ => lifted os started H enc)

theorem proved : Rows.RatioSumsCardSaid :=
  Claim7.holds_tied_plain_at .later [] [.data, .data, .data, .data, .sentinel, .sentinel, .pinned] true (true, "4a432e019443ce7cbaaef77898996cedd50d8bb3af73d6fb9cf6d5bd692cc147") true
    said (fun _ h => by cases h) (by kernel_rfl) (fun _ h => by cases h) ratioSums_row_tie rfl ⟨rfl, rfl⟩ (by kernel_rfl) rfl
    (fun f fn hf hfn => by
      obtain rfl : f = 3 := Option.some.inj ((show Tryz.prog.funcNamed "porterslodge/portlaw2.RatioSums" = some 3 by kernel_rfl).symm.trans hf) |>.symm
      obtain rfl : fn = Tryz.f3 := (Option.some.inj (Tryz.func3.symm.trans hfn)).symm
      exact ⟨by kernel_rfl, fun j t ht => by
        rw [Tryz.params3] at ht
        have hm : t ∈ [23, 23] := by simpa using Array.mem_of_getElem? ht
        have hall : ([23, 23].all fun u => !Tryz.prog.wantsStandIn u) = true := by kernel_rfl
        exact (show Tryz.prog.wantsStandIn t = false by simpa using List.all_eq_true.1 hall t hm)⟩)
    (by kernel_rfl)
#print axioms proved
end Go.Proofs.YtnnbhehaplphiaaGreatDoor.RatioSums
