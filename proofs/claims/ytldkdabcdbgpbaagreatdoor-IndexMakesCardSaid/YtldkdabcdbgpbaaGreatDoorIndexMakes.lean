/-
  IndexMakes: for every input the law returns true, and the input reads as it did. No condition.
-/
import Derived.Test.YtldkdabcdbgpbaaGreatDoorRows
import Derived.Test.YtldkdabcdbgpbaaGreatDoorIndexMakesW4
import Derived.Test.YtldkdabcdbgpbaaGreatDoorIndexMakesKxA
import Derived.Test.YtldkdabcdbgpbaaGreatDoorIndexMakesKxB
import Derived.Test.YtldkdabcdbgpbaaGreatDoorIndexMakesKixWith
import Derived.Test.YtldkdabcdbgpbaaGreatDoorIndexMakesKixOf
import Derived.Test.YtldkdabcdbgpbaaGreatDoorIndexMakesIndexMakes
import Derived.Test.YtldkdabcdbgpbaaGreatDoorGf
import Derived.Test.YtldkdabcdbgpbaaGreatDoorTie
import Derived.Test.YtldkdabcdbgpbaaGreatDoorCards
import Derived.SevenTiedAt
import Derived.LaidMore
import Derived.Lay
import Derived.Stop.Joined
import Derived.Test.YtldkdabcdbgpbaaGreatDoorGb
namespace Go.Proofs.YtldkdabcdbgpbaaGreatDoor.IndexMakes
open Go Go.ChangeShapes Go.WideShapes Go.ChangeAt Go.RowKit Go.Gw Go.Pu Go.Proofs.YtldkdabcdbgpbaaGreatDoor.M Go.Proofs.YtldkdabcdbgpbaaGreatDoor.W
set_option linter.unusedVariables false
set_option linter.unusedSimpArgs false

theorem own : ownKnob Tryz.prog.godebug = none := by kernel_rfl
theorem laidOut : laidOutB Tryz.prog = true := by kernel_rfl
theorem tys : (Tryz.f3.params.toList.all fun t => Tryz.prog.readableRec t && decide (t < Tryz.prog.types.size)) = true := by kernel_rfl
theorem cells22 : Tryz.prog.cellsOf 22 = 1 := by kernel_rfl
theorem cells33 : Tryz.prog.cellsOf 33 = 3 := by kernel_rfl
theorem cells9 : Tryz.prog.cellsOf 9 = 1 := by kernel_rfl
theorem cells3 : Tryz.prog.cellsOf 3 = 1 := by kernel_rfl
theorem o3 : Opn Tryz.prog 3 Int := Opn_int Tryz.underlying3
theorem o9 : Opn Tryz.prog 9 ByteArray := Opn_str Tryz.underlying9
theorem o33 : Opn Tryz.prog 33 know_Entry := Opn_struct (β := Int × ByteArray × ByteArray) (fun (x : know_Entry) => (x.id_, x.title, x.body)) (fun y => (⟨y.1, y.2.1, y.2.2⟩ : know_Entry)) (fun _ => rfl) Tryz.underlying33 cells33 (OpnL_cons rfl cells3 o3 (OpnL_cons rfl cells9 o9 (OpnL_one rfl cells9 o9)))
theorem o22 : Opn Tryz.prog 22 (List know_Entry) := Opn_slice Tryz.underlying22 o33 cells33 (by decide)

set_option maxRecDepth 100000 in
theorem lifted (os : Os) (started : os.Started) (H : Type) (enc : TypeId × Value → H) :
    ReturnsInHanded {} Tryz.checked os 3 .any (fun w args => (Rows.indexMakesSpec.pre enc Tryz.prog Tryz.f3 Rows.indexMakesRow.domain false w args ∧ laidMetH Tryz.prog Rows.indexMakesRow.laid w) ∧ sizedMet enc Tryz.prog Tryz.f3 (OpenSpec.ofChange Rows.indexMakesSpec) false w args) (Rows.indexMakesSpec.post enc Tryz.prog Tryz.f3 false true false false) := by
  refine returnsInHanded_of_change_shape (C := Tryz.checked) (X := fun w _ => laidMetH Tryz.prog Rows.indexMakesRow.laid w) (fun _ _ _ hh h => h.of_heap hh) own started (by kernel_rfl) Tryz.func3
    (ChangeSpec.witness_shaped (enc := enc) (C := Tryz.checked) (os := os) (X := fun w _ => laidMetH Tryz.prog Rows.indexMakesRow.laid w) false (World.laidAll Tryz.prog os Rows.indexMakesRow.laid) #[.slice none 0 0] 8 (World.laidAll_os _ _ _) (World.shaped_of_ZipB (by kernel_rfl) (by kernel_rfl)) (by kernel_rfl) (by kernel_rfl) (by kernel_rfl)
      (by rw [MakeChecks.laidMetH_plain _ _ _ (by kernel_rfl)]; exact laidMet_laidAll _ (by kernel_rfl) (by kernel_rfl))) ?_
  intro W base args ds gs before hval0 hW _ _ hL _ hshape
  have hval : ∀ (j : Nat) t v, Tryz.f3.params[j]? = some t → args[j]? = some v → Value.okWide Tryz.prog W .any base t v := hval0
  have hgs : gs = [] := by
    obtain ⟨p, q, _, hV, _⟩ := hW
    cases gs with
    | nil => rfl
    | cons g r => exact hV.elim
  subst hgs
  have hW' := hW
  obtain ⟨p, q, hA0, hV, rfl, hfz, hnd⟩ := hW
  have hA : DataW.TrodAll enc Tryz.prog W 0 (fun _ => true) true Tryz.f3.params.toList args.toList ds p := hA0
  rw [Tryz.params3] at hA hval
  obtain ⟨v0, vs0, d0, ds0, p0, q0, hargs, rfl, rfl, h0, r0⟩ := trodAll_cons hA
  obtain ⟨rfl, rfl, rfl⟩ := trodAll_nil r0
  obtain rfl : args = #[v0] := by cases args; simp_all
  obtain ⟨x0, g0, wf0⟩ := arg_slice o22 Tryz.underlying22 (hval 0 22 v0 rfl rfl) h0
  clear hA0 hA hval0
  refine Calls.mono (portlaw2_IndexMakes_c W (fun _ _ => trivial) (Mx.shape hshape (g := 0) (of_decide_eq_true (by kernel_rfl)) (zero := #[.int .i64 0]) (t := 3) (by kernel_rfl) rfl (by kernel_rfl) (by kernel_rfl) Tryz.underlying3) x0 v0 g0 (makes_true x0)) ?_
  rintro e W' ⟨v, rfl, rfl, hk⟩
  exact ⟨_, rfl, law_post rfl rfl rfl rfl rfl Tryz.underlying4 laidOut tys hW' hk.below⟩

theorem said : Rows.IndexMakesSaid :=
  OpenClaim.holds_of_wide 3 Tryz.f3 rfl rfl rfl rfl rfl rfl rfl ⟨rfl, rfl, rfl, rfl, rfl⟩ rfl rfl rfl rfl rfl (by kernel_rfl) Tryz.func3 (by kernel_rfl)
    (of_decide_eq_true (by kernel_rfl)) (by unfold Func.isWrapper; first | (rw [if_pos (by decide +kernel)]; kernel_rfl) | (rw [if_neg (by decide +kernel)]; exact ⟨rfl, rfl⟩))
    (fun os started H enc _ => lifted os started H enc)

theorem proved : Rows.IndexMakesCardSaid :=
  Claim7.holds_tied_plain_at .later [] [.data, .pinned] true (true, "523221c54faec6eddf641ffc094cb12c50c17e43efc7fb52f2f0b667246de066") true
    said (fun _ h => by cases h) (by kernel_rfl) (fun _ h => by cases h) indexMakes_row_tie rfl ⟨rfl, rfl⟩ (by kernel_rfl) rfl
    (fun f fn hf hfn => by
      obtain rfl : f = 3 := Option.some.inj ((show Tryz.prog.funcNamed "porterslodge/portlaw2.IndexMakes" = some 3 by kernel_rfl).symm.trans hf) |>.symm
      obtain rfl : fn = Tryz.f3 := (Option.some.inj (Tryz.func3.symm.trans hfn)).symm
      exact ⟨by kernel_rfl, fun j t ht => by
        rw [Tryz.params3] at ht
        have hm : t ∈ [22] := by simpa using Array.mem_of_getElem? ht
        have hall : ([22].all fun u => !Tryz.prog.wantsStandIn u) = true := by kernel_rfl
        exact (show Tryz.prog.wantsStandIn t = false by simpa using List.all_eq_true.1 hall t hm)⟩)
    (by kernel_rfl)
#print axioms proved
end Go.Proofs.YtldkdabcdbgpbaaGreatDoor.IndexMakes
