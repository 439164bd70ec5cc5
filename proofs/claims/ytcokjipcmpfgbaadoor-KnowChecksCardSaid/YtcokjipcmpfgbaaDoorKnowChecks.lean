/-
  KnowChecks: for every input the law returns true, and the input reads as it did. No condition.
-/
import Derived.Test.YtcokjipcmpfgbaaDoorRows
import Derived.Test.YtcokjipcmpfgbaaDoorKnowChecksW1
import Derived.Test.YtcokjipcmpfgbaaDoorKnowChecksArtBase
import Derived.Test.YtcokjipcmpfgbaaDoorKnowChecksArtLow
import Derived.Test.YtcokjipcmpfgbaaDoorKnowChecksKnowChecks
import Derived.Test.YtcokjipcmpfgbaaDoorGf
import Derived.Test.YtcokjipcmpfgbaaDoorTie
import Derived.Test.YtcokjipcmpfgbaaDoorCards
import Derived.SevenTiedAt
import Derived.LaidMore
import Derived.Lay
import Derived.Stop.Joined
import Derived.Test.YtcokjipcmpfgbaaDoorGb
namespace Go.Proofs.YtcokjipcmpfgbaaDoor.KnowChecks
open Go Go.ChangeShapes Go.WideShapes Go.ChangeAt Go.RowKit Go.Gw Go.Pu Go.Proofs.YtcokjipcmpfgbaaDoor.M Go.Proofs.YtcokjipcmpfgbaaDoor.W
set_option linter.unusedVariables false
set_option linter.unusedSimpArgs false

theorem own : ownKnob Tryd.prog.godebug = none := by kernel_rfl
theorem laidOut : laidOutB Tryd.prog = true := by kernel_rfl
theorem tys : (Tryd.f4.params.toList.all fun t => Tryd.prog.readableRec t && decide (t < Tryd.prog.types.size)) = true := by kernel_rfl
theorem cells28 : Tryd.prog.cellsOf 28 = 1 := by kernel_rfl
theorem cells27 : Tryd.prog.cellsOf 27 = 1 := by kernel_rfl
theorem cells69 : Tryd.prog.cellsOf 69 = 3 := by kernel_rfl
theorem cells63 : Tryd.prog.cellsOf 63 = 1 := by kernel_rfl
theorem cells71 : Tryd.prog.cellsOf 71 = 3 := by kernel_rfl
theorem cells9 : Tryd.prog.cellsOf 9 = 1 := by kernel_rfl
theorem cells3 : Tryd.prog.cellsOf 3 = 1 := by kernel_rfl
theorem o3 : Opn Tryd.prog 3 Int := Opn_int Tryd.underlying3
theorem o9 : Opn Tryd.prog 9 ByteArray := Opn_str Tryd.underlying9
theorem o71 : Opn Tryd.prog 71 know_Version := Opn_struct (β := Int × ByteArray × ByteArray) (fun (x : know_Version) => (x.at_, x.title, x.body)) (fun y => (⟨y.1, y.2.1, y.2.2⟩ : know_Version)) (fun _ => rfl) Tryd.underlying71 cells71 (OpnL_cons rfl cells3 o3 (OpnL_cons rfl cells9 o9 (OpnL_one rfl cells9 o9)))
theorem o63 : Opn Tryd.prog 63 (List know_Version) := Opn_slice Tryd.underlying63 o71 cells71 (by decide)
theorem o69 : Opn Tryd.prog 69 know_Article := Opn_struct (β := Int × Int × (List know_Version)) (fun (x : know_Article) => (x.id, x.group, x.versions)) (fun y => (⟨y.1, y.2.1, y.2.2⟩ : know_Article)) (fun _ => rfl) Tryd.underlying69 cells69 (OpnL_cons rfl cells3 o3 (OpnL_cons rfl cells3 o3 (OpnL_one rfl cells63 o63)))
theorem o27 : Opn Tryd.prog 27 (List know_Article) := Opn_slice Tryd.underlying27 o69 cells69 (by decide)
theorem o28 : Opn Tryd.prog 28 (List Int) := Opn_slice Tryd.underlying28 o3 cells3 (by decide)

set_option maxRecDepth 100000 in
theorem lifted (os : Os) (started : os.Started) (H : Type) (enc : TypeId × Value → H) :
    ReturnsInHanded {} Tryd.checked os 4 .any (fun w args => (Rows.knowChecksSpec.pre enc Tryd.prog Tryd.f4 Rows.knowChecksRow.domain false w args ∧ laidMetH Tryd.prog Rows.knowChecksRow.laid w) ∧ sizedMet enc Tryd.prog Tryd.f4 (OpenSpec.ofChange Rows.knowChecksSpec) false w args) (Rows.knowChecksSpec.post enc Tryd.prog Tryd.f4 false true false false) := by
  refine returnsInHanded_of_change_shape (C := Tryd.checked) (X := fun w _ => laidMetH Tryd.prog Rows.knowChecksRow.laid w) (fun _ _ _ hh h => h.of_heap hh) own started (by kernel_rfl) Tryd.func4
    (ChangeSpec.witness_shaped (enc := enc) (C := Tryd.checked) (os := os) (X := fun w _ => laidMetH Tryd.prog Rows.knowChecksRow.laid w) false (World.laidAll Tryd.prog os Rows.knowChecksRow.laid) #[.slice none 0 0, .slice none 0 0, .int .i64 0] 8 (World.laidAll_os _ _ _) (World.shaped_of_ZipB (by kernel_rfl) (by kernel_rfl)) (by kernel_rfl) (by kernel_rfl) (by kernel_rfl)
      (by rw [MakeChecks.laidMetH_plain _ _ _ (by kernel_rfl)]; exact laidMet_laidAll _ (by kernel_rfl) (by kernel_rfl))) ?_
  intro W base args ds gs before hval0 hW _ _ hL _ hshape
  have hval : ∀ (j : Nat) t v, Tryd.f4.params[j]? = some t → args[j]? = some v → Value.okWide Tryd.prog W .any base t v := hval0
  have hgs : gs = [] := by
    obtain ⟨p, q, _, hV, _⟩ := hW
    cases gs with
    | nil => rfl
    | cons g r => exact hV.elim
  subst hgs
  have hW' := hW
  obtain ⟨p, q, hA0, hV, rfl, hfz, hnd⟩ := hW
  have hA : DataW.TrodAll enc Tryd.prog W 0 (fun _ => true) true Tryd.f4.params.toList args.toList ds p := hA0
  rw [Tryd.params4] at hA hval
  obtain ⟨v0, vs0, d0, ds0, p0, q0, hargs, rfl, rfl, h0, r0⟩ := trodAll_cons hA
  obtain ⟨v1, vs1, d1, ds1, p1, q1, rfl, rfl, rfl, h1, r1⟩ := trodAll_cons r0
  obtain ⟨v2, vs2, d2, ds2, p2, q2, rfl, rfl, rfl, h2, r2⟩ := trodAll_cons r1
  obtain ⟨rfl, rfl, rfl⟩ := trodAll_nil r2
  obtain rfl : args = #[v0, v1, v2] := by cases args; simp_all
  obtain ⟨x0, g0, wf0⟩ := arg_slice o27 Tryd.underlying27 (hval 0 27 v0 rfl rfl) h0
  obtain ⟨x1, g1, wf1⟩ := arg_slice o28 Tryd.underlying28 (hval 1 28 v1 rfl rfl) h1
  obtain ⟨x2, rfl, wf2⟩ := arg_int Tryd.underlying3 (hval 2 3 v2 rfl rfl) h2
  clear hA0 hA hval0
  refine Calls.mono (portlaw2_KnowChecks_c W (fun _ _ => trivial) (Mx.shape hshape (g := 2) (of_decide_eq_true (by kernel_rfl)) (zero := #[.int .i64 0]) (t := 3) (by kernel_rfl) rfl (by kernel_rfl) (by kernel_rfl) Tryd.underlying3) x0 v0 g0 x1 v1 g1 x2 (checks_true x0 x1 x2)) ?_
  rintro e W' ⟨v, rfl, rfl, hk⟩
  exact ⟨_, rfl, law_post rfl rfl rfl rfl rfl Tryd.underlying4 laidOut tys hW' hk⟩

theorem said : Rows.KnowChecksSaid :=
  OpenClaim.holds_of_wide 4 Tryd.f4 rfl rfl rfl rfl rfl rfl rfl ⟨rfl, rfl, rfl, rfl, rfl⟩ rfl rfl rfl rfl rfl (by kernel_rfl) Tryd.func4 (by kernel_rfl)
    (of_decide_eq_true (by kernel_rfl)) (by unfold Func.isWrapper; first | (rw [if_pos (by decide +kernel)]; kernel_rfl) | (rw [if_neg (by decide +kernel)]; exact ⟨rfl, rfl⟩))
    (fun os started H enc _ => lifted os started H enc)

theorem proved : Rows.KnowChecksCardSaid :=
  Claim7.holds_tied_plain_at .later [] [.data, .pinned] true (true, "163bad40c9e988fd1ee8106f7031f293d746c4f5fae758c5da371ccf2216c9aa") true
    said (fun _ h => by cases h) (by kernel_rfl) (fun _ h => by cases h) knowChecks_row_tie rfl ⟨rfl, rfl⟩ (by kernel_rfl) rfl
    (fun f fn hf hfn => by
      obtain rfl : f = 4 := Option.some.inj ((show Tryd.prog.funcNamed "porterslodge/portlaw2.KnowChecks" = some 4 by kernel_rfl).symm.trans hf) |>.symm
      obtain rfl : fn = Tryd.f4 := (Option.some.inj (Tryd.func4.symm.trans hfn)).symm
      exact ⟨by kernel_rfl, fun j t ht => by
        rw [Tryd.params4] at ht
        have hm : t ∈ [27, 28, 3] := by simpa using Array.mem_of_getElem? ht
        have hall : ([27, 28, 3].all fun u => !Tryd.prog.wantsStandIn u) = true := by kernel_rfl
        exact (show Tryd.prog.wantsStandIn t = false by simpa using List.all_eq_true.1 hall t hm)⟩)
    (by kernel_rfl)
#print axioms proved
end Go.Proofs.YtcokjipcmpfgbaaDoor.KnowChecks
