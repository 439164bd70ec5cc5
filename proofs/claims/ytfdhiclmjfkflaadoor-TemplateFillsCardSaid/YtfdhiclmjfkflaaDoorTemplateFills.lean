/-
  TemplateFills: for every input the law returns true, and the input reads as it did. No condition.
-/
import Derived.Test.YtfdhiclmjfkflaaDoorRows
import Derived.Test.YtfdhiclmjfkflaaDoorTemplateFillsW3
import Derived.Test.YtfdhiclmjfkflaaDoorTemplateFillsLowFeeds
import Derived.Test.YtfdhiclmjfkflaaDoorTemplateFillsTplBase
import Derived.Test.YtfdhiclmjfkflaaDoorTemplateFillsTplText
import Derived.Test.YtfdhiclmjfkflaaDoorTemplateFillsTplRead
import Derived.Test.YtfdhiclmjfkflaaDoorTemplateFillsTplField
import Derived.Test.YtfdhiclmjfkflaaDoorTemplateFillsTplParse
import Derived.Test.YtfdhiclmjfkflaaDoorTemplateFillsTplOf
import Derived.Test.YtfdhiclmjfkflaaDoorTemplateFillsTplBoth
import Derived.Test.YtfdhiclmjfkflaaDoorTemplateFillsNameBase
import Derived.Test.YtfdhiclmjfkflaaDoorTemplateFillsMapBase
import Derived.Test.YtfdhiclmjfkflaaDoorTemplateFillsTplPairs
import Derived.Test.YtfdhiclmjfkflaaDoorTemplateFillsJoinBase
import Derived.Test.YtfdhiclmjfkflaaDoorTemplateFillsTemplateFills
import Derived.Test.YtfdhiclmjfkflaaDoorGf
import Derived.Test.YtfdhiclmjfkflaaDoorTie
import Derived.Test.YtfdhiclmjfkflaaDoorCards
import Derived.SevenTiedAt
import Derived.LaidMore
import Derived.Lay
import Derived.Stop.Joined
import Derived.Test.YtfdhiclmjfkflaaDoorGb
namespace Go.Proofs.YtfdhiclmjfkflaaDoor.TemplateFills
open Go Go.ChangeShapes Go.WideShapes Go.ChangeAt Go.RowKit Go.Gw Go.Pu Go.Proofs.YtfdhiclmjfkflaaDoor.M Go.Proofs.YtfdhiclmjfkflaaDoor.W
set_option linter.unusedVariables false
set_option linter.unusedSimpArgs false

theorem own : ownKnob Tryd.prog.godebug = none := by kernel_rfl
theorem laidOut : laidOutB Tryd.prog = true := by kernel_rfl
theorem tys : (Tryd.f3.params.toList.all fun t => Tryd.prog.readableRec t && decide (t < Tryd.prog.types.size)) = true := by kernel_rfl
theorem cells22 : Tryd.prog.cellsOf 22 = 1 := by kernel_rfl
theorem cells50 : Tryd.prog.cellsOf 50 = 2 := by kernel_rfl
theorem cells9 : Tryd.prog.cellsOf 9 = 1 := by kernel_rfl
theorem o9 : Opn Tryd.prog 9 ByteArray := Opn_str Tryd.underlying9
theorem o50 : Opn Tryd.prog 50 know_Pair := Opn_struct (β := ByteArray × ByteArray) (fun (x : know_Pair) => (x.name, x.value)) (fun y => (⟨y.1, y.2⟩ : know_Pair)) (fun _ => rfl) Tryd.underlying50 cells50 (OpnL_cons rfl cells9 o9 (OpnL_one rfl cells9 o9))
theorem o22 : Opn Tryd.prog 22 (List know_Pair) := Opn_slice Tryd.underlying22 o50 cells50 (by decide)

set_option maxRecDepth 100000 in
theorem lifted (os : Os) (started : os.Started) (H : Type) (enc : TypeId × Value → H) :
    ReturnsInHanded {} Tryd.checked os 3 .any (fun w args => (Rows.templateFillsSpec.pre enc Tryd.prog Tryd.f3 Rows.templateFillsRow.domain false w args ∧ laidMetH Tryd.prog Rows.templateFillsRow.laid w) ∧ sizedMet enc Tryd.prog Tryd.f3 (OpenSpec.ofChange Rows.templateFillsSpec) false w args) (Rows.templateFillsSpec.post enc Tryd.prog Tryd.f3 false true false false) := by
  refine returnsInHanded_of_change_shape (C := Tryd.checked) (X := fun w _ => laidMetH Tryd.prog Rows.templateFillsRow.laid w) (fun _ _ _ hh h => h.of_heap hh) own started (by kernel_rfl) Tryd.func3
    (ChangeSpec.witness_shaped (enc := enc) (C := Tryd.checked) (os := os) (X := fun w _ => laidMetH Tryd.prog Rows.templateFillsRow.laid w) false (World.laidAll Tryd.prog os Rows.templateFillsRow.laid) #[.string ByteArray.empty, .slice none 0 0] 8 (World.laidAll_os _ _ _) (World.shaped_of_ZipB (by kernel_rfl) (by kernel_rfl)) (by kernel_rfl) (by kernel_rfl) (by kernel_rfl)
      (by rw [MakeChecks.laidMetH_plain _ _ _ (by kernel_rfl)]; exact laidMet_laidAll _ (by kernel_rfl) (by kernel_rfl))) ?_
  intro W base args ds gs before hval0 hW _ _ hL _ hshape
  have hval : ∀ (j : Nat) t v, Tryd.f3.params[j]? = some t → args[j]? = some v → Value.okWide Tryd.prog W .any base t v := hval0
  have hgs : gs = [] := by
    obtain ⟨p, q, _, hV, _⟩ := hW
    cases gs with
    | nil => rfl
    | cons g r => exact hV.elim
  subst hgs
  have hW' := hW
  obtain ⟨p, q, hA0, hV, rfl, hfz, hnd⟩ := hW
  have hA : DataW.TrodAll enc Tryd.prog W 0 (fun _ => true) true Tryd.f3.params.toList args.toList ds p := hA0
  rw [Tryd.params3] at hA hval
  obtain ⟨v0, vs0, d0, ds0, p0, q0, hargs, rfl, rfl, h0, r0⟩ := trodAll_cons hA
  obtain ⟨v1, vs1, d1, ds1, p1, q1, rfl, rfl, rfl, h1, r1⟩ := trodAll_cons r0
  obtain ⟨rfl, rfl, rfl⟩ := trodAll_nil r1
  obtain rfl : args = #[v0, v1] := by cases args; simp_all
  obtain ⟨x0, rfl, wf0⟩ := arg_str Tryd.underlying9 (hval 0 9 v0 rfl rfl) h0
  obtain ⟨x1, g1, wf1⟩ := arg_slice o22 Tryd.underlying22 (hval 1 22 v1 rfl rfl) h1
  clear hA0 hA hval0
  refine Calls.mono (portlaw2_TemplateFills_c W (fun _ _ => trivial) (Mx.shape hshape (g := 0) (of_decide_eq_true (by kernel_rfl)) (zero := #[.int .i64 0]) (t := 3) (by kernel_rfl) rfl (by kernel_rfl) (by kernel_rfl) Tryd.underlying3) x0 x1 v1 g1 (fills_true x0 x1)) ?_
  rintro e W' ⟨v, rfl, rfl, hk⟩
  exact ⟨_, rfl, law_post rfl rfl rfl rfl rfl Tryd.underlying4 laidOut tys hW' hk.below⟩

theorem said : Rows.TemplateFillsSaid :=
  OpenClaim.holds_of_wide 3 Tryd.f3 rfl rfl rfl rfl rfl rfl rfl ⟨rfl, rfl, rfl, rfl, rfl⟩ rfl rfl rfl rfl rfl (by kernel_rfl) Tryd.func3 (by kernel_rfl)
    (of_decide_eq_true (by kernel_rfl)) (by unfold Func.isWrapper; first | (rw [if_pos (by decide +kernel)]; kernel_rfl) | (rw [if_neg (by decide +kernel)]; exact ⟨rfl, rfl⟩))
    (fun os started H enc _ => lifted os started H enc)

theorem proved : Rows.TemplateFillsCardSaid :=
  Claim7.holds_tied_plain_at .later [] [.data, .pinned] true (true, "5e61fba5c855f54b2b1d20235dd4aaaa2b8b882bb9a94199d0b7cb957a5a6c3b") false
    said (fun _ h => by cases h) (by kernel_rfl) (fun _ h => by cases h) templateFills_row_tie rfl ⟨rfl, rfl⟩ (by kernel_rfl) rfl
    (fun f fn hf hfn => by
      obtain rfl : f = 3 := Option.some.inj ((show Tryd.prog.funcNamed "porterslodge/portlaw2.TemplateFills" = some 3 by kernel_rfl).symm.trans hf) |>.symm
      obtain rfl : fn = Tryd.f3 := (Option.some.inj (Tryd.func3.symm.trans hfn)).symm
      exact ⟨by kernel_rfl, fun j t ht => by
        rw [Tryd.params3] at ht
        have hm : t ∈ [9, 22] := by simpa using Array.mem_of_getElem? ht
        have hall : ([9, 22].all fun u => !Tryd.prog.wantsStandIn u) = true := by kernel_rfl
        exact (show Tryd.prog.wantsStandIn t = false by simpa using List.all_eq_true.1 hall t hm)⟩)
    (by kernel_rfl)
#print axioms proved
end Go.Proofs.YtfdhiclmjfkflaaDoor.TemplateFills
