/-
  TemplateChecks: for every input the law returns true, and the input reads as it did. No condition.
-/
import Derived.Test.YtmieekpjdhhjfaaDoorRows
import Derived.Test.YtmieekpjdhhjfaaDoorTemplateChecksW2
import Derived.Test.YtmieekpjdhhjfaaDoorTemplateChecksLowFeeds
import Derived.Test.YtmieekpjdhhjfaaDoorTemplateChecksTplBase
import Derived.Test.YtmieekpjdhhjfaaDoorTemplateChecksTplText
import Derived.Test.YtmieekpjdhhjfaaDoorTemplateChecksTplRead
import Derived.Test.YtmieekpjdhhjfaaDoorTemplateChecksTplField
import Derived.Test.YtmieekpjdhhjfaaDoorTemplateChecksTplParse
import Derived.Test.YtmieekpjdhhjfaaDoorTemplateChecksTplOf
import Derived.Test.YtmieekpjdhhjfaaDoorTemplateChecksTplBoth
import Derived.Test.YtmieekpjdhhjfaaDoorTemplateChecksTemplateChecks
import Derived.Test.YtmieekpjdhhjfaaDoorGf
import Derived.Test.YtmieekpjdhhjfaaDoorTie
import Derived.Test.YtmieekpjdhhjfaaDoorCards
import Derived.SevenTiedAt
import Derived.LaidMore
import Derived.Lay
import Derived.Stop.Joined
import Derived.Test.YtmieekpjdhhjfaaDoorGb
namespace Go.Proofs.YtmieekpjdhhjfaaDoor.TemplateChecks
open Go Go.ChangeShapes Go.WideShapes Go.ChangeAt Go.RowKit Go.Gw Go.Pu Go.Proofs.YtmieekpjdhhjfaaDoor.M Go.Proofs.YtmieekpjdhhjfaaDoor.W
set_option linter.unusedVariables false
set_option linter.unusedSimpArgs false

theorem own : ownKnob Tryd.prog.godebug = none := by kernel_rfl
theorem laidOut : laidOutB Tryd.prog = true := by kernel_rfl
theorem tys : (Tryd.f3.params.toList.all fun t => Tryd.prog.readableRec t && decide (t < Tryd.prog.types.size)) = true := by kernel_rfl
theorem cells9 : Tryd.prog.cellsOf 9 = 1 := by kernel_rfl
theorem o9 : Opn Tryd.prog 9 ByteArray := Opn_str Tryd.underlying9

set_option maxRecDepth 100000 in
theorem lifted (os : Os) (started : os.Started) (H : Type) (enc : TypeId × Value → H) :
    ReturnsInHanded {} Tryd.checked os 3 .any (fun w args => (Rows.templateChecksSpec.pre enc Tryd.prog Tryd.f3 Rows.templateChecksRow.domain false w args ∧ laidMetH Tryd.prog Rows.templateChecksRow.laid w) ∧ sizedMet enc Tryd.prog Tryd.f3 (OpenSpec.ofChange Rows.templateChecksSpec) false w args) (Rows.templateChecksSpec.post enc Tryd.prog Tryd.f3 false true false false) := by
  refine returnsInHanded_of_change_shape (C := Tryd.checked) (X := fun w _ => laidMetH Tryd.prog Rows.templateChecksRow.laid w) (fun _ _ _ hh h => h.of_heap hh) own started (by kernel_rfl) Tryd.func3
    (ChangeSpec.witness_shaped (enc := enc) (C := Tryd.checked) (os := os) (X := fun w _ => laidMetH Tryd.prog Rows.templateChecksRow.laid w) false (World.laidAll Tryd.prog os Rows.templateChecksRow.laid) #[.string ByteArray.empty] 8 (World.laidAll_os _ _ _) (World.shaped_of_ZipB (by kernel_rfl) (by kernel_rfl)) (by kernel_rfl) (by kernel_rfl) (by kernel_rfl)
      (by rw [MakeChecks.laidMetH_plain _ _ _ (by kernel_rfl)]; exact laidMet_laidAll _ (by kernel_rfl) (by kernel_rfl))) ?_
  intro W base args ds gs before hval0 hW _ _ hL _ hshape
  have hval : ∀ (j : Nat) t v, Tryd.f3.params[j]? = some t → args[j]? = some v → Value.okWide Tryd.prog W .any base t v := hval0
  have hgs : gs = [] := by
    obtain ⟨p, q, _, hV, _⟩ := hW
    cases gs with
    | nil => rfl
    | cons g r => exact hV.elim
  subst hgs
  have hW' := hW
  obtain ⟨p, q, hA0, hV, rfl, hfz, hnd⟩ := hW
  have hA : DataW.TrodAll enc Tryd.prog W 0 (fun _ => true) true Tryd.f3.params.toList args.toList ds p := hA0
  rw [Tryd.params3] at hA hval
  obtain ⟨v0, vs0, d0, ds0, p0, q0, hargs, rfl, rfl, h0, r0⟩ := trodAll_cons hA
  obtain ⟨rfl, rfl, rfl⟩ := trodAll_nil r0
  obtain rfl : args = #[v0] := by cases args; simp_all
  obtain ⟨x0, rfl, wf0⟩ := arg_str Tryd.underlying9 (hval 0 9 v0 rfl rfl) h0
  clear hA0 hA hval0
  refine Calls.mono (portlaw2_TemplateChecks_c W (fun _ _ => trivial) (Mx.shape hshape (g := 0) (of_decide_eq_true (by kernel_rfl)) (zero := #[.int .i64 0]) (t := 3) (by kernel_rfl) rfl (by kernel_rfl) (by kernel_rfl) Tryd.underlying3) x0 (checks_true x0)) ?_
  rintro e W' ⟨v, rfl, rfl, hk⟩
  exact ⟨_, rfl, law_post rfl rfl rfl rfl rfl Tryd.underlying4 laidOut tys hW' hk.below⟩

theorem said : Rows.TemplateChecksSaid :=
  OpenClaim.holds_of_wide 3 Tryd.f3 rfl rfl rfl rfl rfl rfl rfl ⟨rfl, rfl, rfl, rfl, rfl⟩ rfl rfl rfl rfl rfl (by kernel_rfl) Tryd.func3 (by kernel_rfl)
    (of_decide_eq_true (by kernel_rfl)) (by unfold Func.isWrapper; first | (rw [if_pos (by decide +kernel)]; kernel_rfl) | (rw [if_neg (by decide +kernel)]; exact ⟨rfl, rfl⟩))
    (fun os started H enc _ => lifted os started H enc)

theorem proved : Rows.TemplateChecksCardSaid :=
  Claim7.holds_tied_plain_at .later [] [.data, .pinned] true (true, "f820b2a34184d51c66fada519abc3fb108b4111ce845dd890a6353c2d6e4af13") false
    said (fun _ h => by cases h) (by kernel_rfl) (fun _ h => by cases h) templateChecks_row_tie rfl ⟨rfl, rfl⟩ (by kernel_rfl) rfl
    (fun f fn hf hfn => by
      obtain rfl : f = 3 := Option.some.inj ((show Tryd.prog.funcNamed "porterslodge/portlaw2.TemplateChecks" = some 3 by kernel_rfl).symm.trans hf) |>.symm
      obtain rfl : fn = Tryd.f3 := (Option.some.inj (Tryd.func3.symm.trans hfn)).symm
      exact ⟨by kernel_rfl, fun j t ht => by
        rw [Tryd.params3] at ht
        have hm : t ∈ [9] := by simpa using Array.mem_of_getElem? ht
        have hall : ([9].all fun u => !Tryd.prog.wantsStandIn u) = true := by kernel_rfl
        exact (show Tryd.prog.wantsStandIn t = false by simpa using List.all_eq_true.1 hall t hm)⟩)
    (by kernel_rfl)
#print axioms proved
end Go.Proofs.YtmieekpjdhhjfaaDoor.TemplateChecks
