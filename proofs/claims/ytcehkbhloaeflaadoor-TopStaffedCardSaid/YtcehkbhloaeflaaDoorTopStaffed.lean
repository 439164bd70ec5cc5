/-
  TopStaffed: for every input the law returns true, and the input reads as it did. No condition.
-/
import Derived.Test.YtcehkbhloaeflaaDoorRows
import Derived.Test.YtcehkbhloaeflaaDoorTopStaffedW2
import Derived.Test.YtcehkbhloaeflaaDoorTopStaffedBigNat
import Derived.Test.YtcehkbhloaeflaaDoorTopStaffedBigNat2
import Derived.Test.YtcehkbhloaeflaaDoorTopStaffedTopKept
import Derived.Test.YtcehkbhloaeflaaDoorTopStaffedTopPlan
import Derived.Test.YtcehkbhloaeflaaDoorTopStaffedTopStaffed
import Derived.Test.YtcehkbhloaeflaaDoorGf
import Derived.Test.YtcehkbhloaeflaaDoorTie
import Derived.Test.YtcehkbhloaeflaaDoorCards
import Derived.SevenTiedAt
import Derived.LaidMore
import Derived.Stop.Joined
namespace Go.Proofs.YtcehkbhloaeflaaDoor.TopStaffed
open Go Go.ChangeShapes Go.WideShapes Go.ChangeAt Go.RowKit Go.Gw Go.Pu Go.Proofs.YtcehkbhloaeflaaDoor.M Go.Proofs.YtcehkbhloaeflaaDoor.W
set_option linter.unusedVariables false
set_option linter.unusedSimpArgs false

theorem own : ownKnob Tryd.prog.godebug = none := by kernel_rfl
theorem laidOut : laidOutB Tryd.prog = true := by kernel_rfl
theorem tys : (Tryd.f3.params.toList.all fun t => Tryd.prog.readableRec t && decide (t < Tryd.prog.types.size)) = true := by kernel_rfl
theorem cells25 : Tryd.prog.cellsOf 25 = 1 := by kernel_rfl
theorem cells51 : Tryd.prog.cellsOf 51 = 2 := by kernel_rfl
theorem cells24 : Tryd.prog.cellsOf 24 = 4 := by kernel_rfl
theorem cells22 : Tryd.prog.cellsOf 22 = 1 := by kernel_rfl
theorem cells34 : Tryd.prog.cellsOf 34 = 3 := by kernel_rfl
theorem cells3 : Tryd.prog.cellsOf 3 = 1 := by kernel_rfl
theorem o3 : Opn Tryd.prog 3 Int := Opn_int Tryd.underlying3
theorem o34 : Opn Tryd.prog 34 staff_Load := Opn_struct (β := Int × Int × Int) (fun (x : staff_Load) => (x.calls, x.length, x.span)) (fun y => (⟨y.1, y.2.1, y.2.2⟩ : staff_Load)) (fun _ => rfl) Tryd.underlying34 cells34 (OpnL_cons rfl cells3 o3 (OpnL_cons rfl cells3 o3 (OpnL_one rfl cells3 o3)))
theorem o22 : Opn Tryd.prog 22 (List staff_Load) := Opn_slice Tryd.underlying22 o34 cells34 (by decide)
theorem o24 : Opn Tryd.prog 24 staff_Promise := Opn_struct (β := Int × Int × Int × Int) (fun (x : staff_Promise) => (x.share, x.of, x.wait, x.parts)) (fun y => (⟨y.1, y.2.1, y.2.2.1, y.2.2.2⟩ : staff_Promise)) (fun _ => rfl) Tryd.underlying24 cells24 (OpnL_cons rfl cells3 o3 (OpnL_cons rfl cells3 o3 (OpnL_cons rfl cells3 o3 (OpnL_one rfl cells3 o3))))
theorem o51 : Opn Tryd.prog 51 staff_Form := Opn_struct (β := Int × Int) (fun (x : staff_Form) => (x.from_, x.slots)) (fun y => (⟨y.1, y.2⟩ : staff_Form)) (fun _ => rfl) Tryd.underlying51 cells51 (OpnL_cons rfl cells3 o3 (OpnL_one rfl cells3 o3))
theorem o25 : Opn Tryd.prog 25 (List staff_Form) := Opn_slice Tryd.underlying25 o51 cells51 (by decide)

theorem door_met (os : Os) (args : Array Value) : laidMetH Tryd.prog Rows.topStaffedRow.laid ((World.doorLaid Tryd.prog 400 os).forCall (fun _ _ => 0) ⟨#[], args, []⟩).memory :=
  laidMetH_of_parts3 (fuel := 8) (laidMet_of_run' 8 (by kernel_rfl) (by kernel_rfl)) (by kernel_rfl) (by kernel_rfl)

set_option maxRecDepth 100000 in
theorem lifted (os : Os) (started : os.Started) (H : Type) (enc : TypeId × Value → H) :
    ReturnsInHanded {} Tryd.checked os 3 .any (fun w args => (Rows.topStaffedSpec.pre enc Tryd.prog Tryd.f3 Rows.topStaffedRow.domain false w args ∧ laidMetH Tryd.prog Rows.topStaffedRow.laid w) ∧ sizedMet enc Tryd.prog Tryd.f3 (OpenSpec.ofChange Rows.topStaffedSpec) false w args) (Rows.topStaffedSpec.post enc Tryd.prog Tryd.f3 false true false false) := by
  refine returnsInHanded_of_change_and (C := Tryd.checked) (X := fun w _ => laidMetH Tryd.prog Rows.topStaffedRow.laid w) (fun _ _ _ hh h => h.of_heap hh) own started (by kernel_rfl) Tryd.func3
    (ChangeSpec.witness_shaped (enc := enc) (C := Tryd.checked) (os := os) (X := fun w _ => laidMetH Tryd.prog Rows.topStaffedRow.laid w) false (World.doorLaid Tryd.prog 400 os) #[.slice none 0 0, .agg #[.int .i64 0, .int .i64 0, .int .i64 0, .int .i64 0], .slice none 0 0] 8 rfl (World.shaped_of_RefB (by kernel_rfl) (by kernel_rfl)) (by kernel_rfl) (by kernel_rfl) (by kernel_rfl) (door_met os _)) ?_
  intro W base args ds gs before hval0 hW _ _ hL _
  have hval : ∀ (j : Nat) t v, Tryd.f3.params[j]? = some t → args[j]? = some v → Value.okWide Tryd.prog W .any base t v := hval0
  have hgs : gs = [] := by
    obtain ⟨p, q, _, hV, _⟩ := hW
    cases gs with
    | nil => rfl
    | cons g r => exact hV.elim
  subst hgs
  have hW' := hW
  obtain ⟨p, q, hA0, hV, rfl, hfz, hnd⟩ := hW
  have hA : DataW.TrodAll enc Tryd.prog W 0 (fun _ => true) true Tryd.f3.params.toList args.toList ds p := hA0
  rw [Tryd.params3] at hA hval
  obtain ⟨v0, vs0, d0, ds0, p0, q0, hargs, rfl, rfl, h0, r0⟩ := trodAll_cons hA
  obtain ⟨v1, vs1, d1, ds1, p1, q1, rfl, rfl, rfl, h1, r1⟩ := trodAll_cons r0
  obtain ⟨v2, vs2, d2, ds2, p2, q2, rfl, rfl, rfl, h2, r2⟩ := trodAll_cons r1
  obtain ⟨rfl, rfl, rfl⟩ := trodAll_nil r2
  obtain rfl : args = #[v0, v1, v2] := by cases args; simp_all
  obtain ⟨x0, g0, wf0⟩ := arg_slice o22 Tryd.underlying22 (hval 0 22 v0 rfl rfl) h0
  obtain ⟨x1, cs1, rfl, hr1, wf1⟩ := arg_struct o24 Tryd.underlying24 (hval 1 24 v1 rfl rfl) h1
  obtain ⟨_, _, rfl, rfl, ⟨_, _, rfl, rfl, ⟨_, _, rfl, rfl, rfl⟩⟩⟩ := hr1
  obtain ⟨x2, g2, wf2⟩ := arg_slice o25 Tryd.underlying25 (hval 2 25 v2 rfl rfl) h2
  clear hA0 hA hval0
  refine Calls.mono (porttop_TopStaffed_c W (fun _ _ => trivial) x0 v0 g0 x1 x2 v2 g2 (staffed_true x0 x1 x2)) ?_
  rintro e W' ⟨v, rfl, rfl, hk⟩
  exact ⟨_, rfl, law_post rfl rfl rfl rfl rfl Tryd.underlying4 laidOut tys hW' hk⟩

theorem said : Rows.TopStaffedSaid :=
  OpenClaim.holds_of_wide 3 Tryd.f3 rfl rfl rfl rfl rfl rfl rfl ⟨rfl, rfl, rfl, rfl, rfl⟩ rfl rfl rfl rfl rfl (by kernel_rfl) Tryd.func3 (by kernel_rfl)
    (of_decide_eq_true (by kernel_rfl)) (by unfold Func.isWrapper; first | (rw [if_pos (by decide +kernel)]; kernel_rfl) | (rw [if_neg (by decide +kernel)]; exact ⟨rfl, rfl⟩))
    (fun os started H enc _ => lifted os started H enc)

theorem proved : Rows.TopStaffedCardSaid :=
  Claim7.holds_tied_plain_at .later [] [.data, .data, .data] true (true, "d25d92af1f32ffb2641fa07ffb0736e3e5fc31ac8ad2ddf5e2c6dc7030a36bcf") false
    said (fun _ h => by cases h) (by kernel_rfl) (fun _ h => by cases h) topStaffed_row_tie rfl ⟨rfl, rfl⟩ (by kernel_rfl) rfl
    (fun f fn hf hfn => by
      obtain rfl : f = 3 := Option.some.inj ((show Tryd.prog.funcNamed "porterslodge/porttop.TopStaffed" = some 3 by kernel_rfl).symm.trans hf) |>.symm
      obtain rfl : fn = Tryd.f3 := (Option.some.inj (Tryd.func3.symm.trans hfn)).symm
      exact ⟨by kernel_rfl, fun j t ht => by
        rw [Tryd.params3] at ht
        have hm : t ∈ [22, 24, 25] := by simpa using Array.mem_of_getElem? ht
        have hall : ([22, 24, 25].all fun u => !Tryd.prog.wantsStandIn u) = true := by kernel_rfl
        exact (show Tryd.prog.wantsStandIn t = false by simpa using List.all_eq_true.1 hall t hm)⟩)
    (by kernel_rfl)
#print axioms proved
end Go.Proofs.YtcehkbhloaeflaaDoor.TopStaffed
