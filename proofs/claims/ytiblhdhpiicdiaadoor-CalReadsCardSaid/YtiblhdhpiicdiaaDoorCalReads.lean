/-
  CalReads: for every input the law returns true, and the input reads as it did. No condition.
-/
import Derived.Test.YtiblhdhpiicdiaaDoorRows
import Derived.Test.YtiblhdhpiicdiaaDoorCalReadsW1
import Derived.Test.YtiblhdhpiicdiaaDoorCalReadsNumText
import Derived.Test.YtiblhdhpiicdiaaDoorCalReadsNameBase0
import Derived.Test.YtiblhdhpiicdiaaDoorCalReadsCutText
import Derived.Test.YtiblhdhpiicdiaaDoorCalReadsCutVal
import Derived.Test.YtiblhdhpiicdiaaDoorCalReadsCalNumber
import Derived.Test.YtiblhdhpiicdiaaDoorCalReadsCalZone2
import Derived.Test.YtiblhdhpiicdiaaDoorCalReadsSolBase
import Derived.Test.YtiblhdhpiicdiaaDoorCalReadsCalReads
import Derived.Test.YtiblhdhpiicdiaaDoorGf
import Derived.Test.YtiblhdhpiicdiaaDoorTie
import Derived.Test.YtiblhdhpiicdiaaDoorCards
import Derived.SevenTiedAt
import Derived.LaidMore
import Derived.Lay
import Derived.Stop.Joined
import Derived.Test.YtiblhdhpiicdiaaDoorGb
import Derived.Test.YtiblhdhpiicdiaaDoorHj
namespace Go.Proofs.YtiblhdhpiicdiaaDoor.CalReads
open Go Go.ChangeShapes Go.WideShapes Go.ChangeAt Go.RowKit Go.Gw Go.Pu Go.Proofs.YtiblhdhpiicdiaaDoor.M Go.Proofs.YtiblhdhpiicdiaaDoor.W
set_option linter.unusedVariables false
set_option linter.unusedSimpArgs false

theorem own : ownKnob Tryd.prog.godebug = none := by kernel_rfl
theorem laidOut : laidOutB Tryd.prog = true := by kernel_rfl
theorem tys : (Tryd.f3.params.toList.all fun t => Tryd.prog.readableRec t && decide (t < Tryd.prog.types.size)) = true := by kernel_rfl
theorem cells9 : Tryd.prog.cellsOf 9 = 1 := by kernel_rfl
theorem cells24 : Tryd.prog.cellsOf 24 = 2 := by kernel_rfl
theorem cells22 : Tryd.prog.cellsOf 22 = 1 := by kernel_rfl
theorem cells46 : Tryd.prog.cellsOf 46 = 2 := by kernel_rfl
theorem cells3 : Tryd.prog.cellsOf 3 = 1 := by kernel_rfl
theorem o3 : Opn Tryd.prog 3 Int := Opn_int Tryd.underlying3
theorem o46 : Opn Tryd.prog 46 cal_Change := Opn_struct (β := Int × Int) (fun (x : cal_Change) => (x.at_, x.offset)) (fun y => (⟨y.1, y.2⟩ : cal_Change)) (fun _ => rfl) Tryd.underlying46 cells46 (OpnL_cons rfl cells3 o3 (OpnL_one rfl cells3 o3))
theorem o22 : Opn Tryd.prog 22 (List cal_Change) := Opn_slice Tryd.underlying22 o46 cells46 (by decide)
theorem o24 : Opn Tryd.prog 24 cal_Zone := Opn_struct (β := Int × (List cal_Change)) (fun (x : cal_Zone) => (x.offset, x.changes)) (fun y => (⟨y.1, y.2⟩ : cal_Zone)) (fun _ => rfl) Tryd.underlying24 cells24 (OpnL_cons rfl cells3 o3 (OpnL_one rfl cells22 o22))
theorem o9 : Opn Tryd.prog 9 ByteArray := Opn_str Tryd.underlying9

set_option maxRecDepth 100000 in
theorem lifted (os : Os) (started : os.Started) (H : Type) (enc : TypeId × Value → H) :
    ReturnsInHanded {} Tryd.checked os 3 .any (fun w args => (Rows.calReadsSpec.pre enc Tryd.prog Tryd.f3 Rows.calReadsRow.domain false w args ∧ laidMetH Tryd.prog Rows.calReadsRow.laid w) ∧ sizedMet enc Tryd.prog Tryd.f3 (OpenSpec.ofChange Rows.calReadsSpec) false w args) (Rows.calReadsSpec.post enc Tryd.prog Tryd.f3 false true false false) := by
  refine returnsInHanded_of_change_shape (C := Tryd.checked) (X := fun w _ => laidMetH Tryd.prog Rows.calReadsRow.laid w) (fun _ _ _ hh h => h.of_heap hh) own started (by kernel_rfl) Tryd.func3
    (ChangeSpec.witness_shaped (enc := enc) (C := Tryd.checked) (os := os) (X := fun w _ => laidMetH Tryd.prog Rows.calReadsRow.laid w) false (World.laidAll Tryd.prog os Rows.calReadsRow.laid) #[.agg #[.int .i64 0, .slice none 0 0], .string ByteArray.empty] 8 (World.laidAll_os _ _ _) (World.shaped_of_ZipB (by kernel_rfl) (by kernel_rfl)) (by kernel_rfl) (by kernel_rfl) (by kernel_rfl)
      (by rw [MakeChecks.laidMetH_plain _ _ _ (by kernel_rfl)]; exact laidMet_laidAll _ (by kernel_rfl) (by kernel_rfl))) ?_
  intro W base args ds gs before hval0 hW _ hsz0 hL _ hshape
  have hsz : (DataW.weightsEach Tryd.prog (Tryd.f3.params.toList ++ Rows.calReadsSpec.plain.varTypes Tryd.prog) (ds ++ gs)).all (· ≤ reachBytes) = true := hsz0
  clear hsz0
  have hval : ∀ (j : Nat) t v, Tryd.f3.params[j]? = some t → args[j]? = some v → Value.okWide Tryd.prog W .any base t v := hval0
  have hgs : gs = [] := by
    obtain ⟨p, q, _, hV, _⟩ := hW
    cases gs with
    | nil => rfl
    | cons g r => exact hV.elim
  subst hgs
  have hW' := hW
  obtain ⟨p, q, hA0, hV, rfl, hfz, hnd⟩ := hW
  have hA : DataW.TrodAll enc Tryd.prog W 0 (fun _ => true) true Tryd.f3.params.toList args.toList ds p := hA0
  rw [Tryd.params3] at hA hval hsz
  obtain ⟨v0, vs0, d0, ds0, p0, q0, hargs, rfl, rfl, h0, r0⟩ := trodAll_cons hA
  obtain ⟨v1, vs1, d1, ds1, p1, q1, rfl, rfl, rfl, h1, r1⟩ := trodAll_cons r0
  obtain ⟨rfl, rfl, rfl⟩ := trodAll_nil r1
  obtain rfl : args = #[v0, v1] := by cases args; simp_all
  obtain ⟨x0, cs0, rfl, hr0, wf0⟩ := arg_struct o24 Tryd.underlying24 (hval 0 24 v0 rfl rfl) h0
  obtain ⟨_, _, rfl, rfl, ⟨u0_1, rfl, u0g1⟩⟩ := hr0
  obtain ⟨x1, rfl, wf1⟩ := arg_str Tryd.underlying9 (hval 1 9 v1 rfl rfl) h1
  clear hA0 hA hval0
  have sz1 := str_size hsz (j := 1) (t := 9) rfl (congrArg some (str_datum Tryd.underlying9 h1))
  refine Calls.mono (portlaw2_CalReads_c W (fun _ _ => trivial) (show Fz Tryd_FR _ _ from ⟨(Tb.laid hL (by kernel_rfl) (by simp only [Rows.calReadsRow, List.mem_cons]; first | exact .inl rfl | exact .inr (.inl rfl) | exact .inr (.inr (.inl rfl)) | exact .inr (.inr (.inr (.inl rfl))) | exact .inr (.inr (.inr (.inr (.inl rfl))))) (g := 5) (by kernel_rfl) (by kernel_rfl) Tryd.underlying110 Tryd.underlying83 (by kernel_rfl) (by kernel_rfl)), (Er.laid (n := "strconv.ErrSyntax") (nm := "*errors.errorString") (d := .ptr (.agg [.lit (.string [105, 110, 118, 97, 108, 105, 100, 32, 115, 121, 110, 116, 97, 120])])) hL (by kernel_rfl) (List.mem_iff_getElem?.2 ⟨5, rfl⟩) (g := 1) (by kernel_rfl) (by kernel_rfl) Tryd.underlying39), (Er.laid (n := "strconv.ErrRange") (nm := "*errors.errorString") (d := .ptr (.agg [.lit (.string [118, 97, 108, 117, 101, 32, 111, 117, 116, 32, 111, 102, 32, 114, 97, 110, 103, 101])])) hL (by kernel_rfl) (List.mem_iff_getElem?.2 ⟨4, rfl⟩) (g := 2) (by kernel_rfl) (by kernel_rfl) Tryd.underlying39)⟩) x0 u0_1 u0g1 x1 (reads_true x0 x1 sz1)) ?_
  rintro e W' ⟨v, rfl, rfl, hk⟩
  exact ⟨_, rfl, law_post rfl rfl rfl rfl rfl Tryd.underlying4 laidOut tys hW' hk.below⟩

theorem said : Rows.CalReadsSaid :=
  OpenClaim.holds_of_wide 3 Tryd.f3 rfl rfl rfl rfl rfl rfl rfl ⟨rfl, rfl, rfl, rfl, rfl⟩ rfl rfl rfl rfl rfl (by kernel_rfl) Tryd.func3 (by kernel_rfl)
    (of_decide_eq_true (by kernel_rfl)) (by unfold Func.isWrapper; first | (rw [if_pos (by decide +kernel)]; kernel_rfl) | (rw [if_neg (by decide +kernel)]; exact ⟨rfl, rfl⟩))
    (fun os started H enc _ => lifted os started H enc)

theorem proved : Rows.CalReadsCardSaid :=
  Claim7.holds_tied_plain_at .later [] [.data, .data, .data, .data, .sentinel, .sentinel, .pinned] true (true, "3a92296ecff40f8e5a69dcf6e2a61a2f7352533ab76c2fff38a3d6db7fd858da") true
    said (fun _ h => by cases h) (by kernel_rfl) (fun _ h => by cases h) calReads_row_tie rfl ⟨rfl, rfl⟩ (by kernel_rfl) rfl
    (fun f fn hf hfn => by
      obtain rfl : f = 3 := Option.some.inj ((show Tryd.prog.funcNamed "porterslodge/portlaw2.CalReads" = some 3 by kernel_rfl).symm.trans hf) |>.symm
      obtain rfl : fn = Tryd.f3 := (Option.some.inj (Tryd.func3.symm.trans hfn)).symm
      exact ⟨by kernel_rfl, fun j t ht => by
        rw [Tryd.params3] at ht
        have hm : t ∈ [24, 9] := by simpa using Array.mem_of_getElem? ht
        have hall : ([24, 9].all fun u => !Tryd.prog.wantsStandIn u) = true := by kernel_rfl
        exact (show Tryd.prog.wantsStandIn t = false by simpa using List.all_eq_true.1 hall t hm)⟩)
    (by kernel_rfl)
#print axioms proved
end Go.Proofs.YtiblhdhpiicdiaaDoor.CalReads
