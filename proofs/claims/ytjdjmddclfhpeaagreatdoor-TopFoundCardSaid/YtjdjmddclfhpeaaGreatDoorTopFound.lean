import Derived.Test.YtjdjmddclfhpeaaGreatDoorRows
import Derived.Test.YtjdjmddclfhpeaaGreatDoorTopFoundW4
import Derived.Test.YtjdjmddclfhpeaaGreatDoorTopFoundKxA
import Derived.Test.YtjdjmddclfhpeaaGreatDoorTopFoundKxC
import Derived.Test.YtjdjmddclfhpeaaGreatDoorTopFoundKxE
import Derived.Test.YtjdjmddclfhpeaaGreatDoorGf
import Derived.Test.YtjdjmddclfhpeaaGreatDoorTie
import Derived.Test.YtjdjmddclfhpeaaGreatDoorCards
import Derived.SevenTiedAt
import Derived.LaidMore
import Derived.Lay
import Derived.Stop.Joined
import Derived.Test.YtjdjmddclfhpeaaGreatDoorGb
namespace Go.Proofs.YtjdjmddclfhpeaaGreatDoor.TopFound
open Go Go.ChangeShapes Go.WideShapes Go.ChangeAt Go.RowKit Go.Gw Go.Pu Go.Proofs.YtjdjmddclfhpeaaGreatDoor.M Go.Proofs.YtjdjmddclfhpeaaGreatDoor.W
set_option linter.unusedVariables false
set_option linter.unusedSimpArgs false
theorem own : ownKnob Tryz.prog.godebug = none := by kernel_rfl
theorem laidOut : laidOutB Tryz.prog = true := by kernel_rfl
theorem tys : (Tryz.f3.params.toList.all fun t => Tryz.prog.readableRec t && decide (t < Tryz.prog.types.size)) = true := by kernel_rfl
theorem cells35 : Tryz.prog.cellsOf 35 = 3 := by kernel_rfl
theorem cells33 : Tryz.prog.cellsOf 33 = 1 := by kernel_rfl
theorem cells38 : Tryz.prog.cellsOf 38 = 3 := by kernel_rfl
theorem cells9 : Tryz.prog.cellsOf 9 = 1 := by kernel_rfl
theorem cells3 : Tryz.prog.cellsOf 3 = 1 := by kernel_rfl
theorem o3 : Opn Tryz.prog 3 Int := Opn_int Tryz.underlying3
theorem o9 : Opn Tryz.prog 9 ByteArray := Opn_str Tryz.underlying9
theorem o38 : Opn Tryz.prog 38 know_Version := Opn_struct (β := Int × ByteArray × ByteArray) (fun (x : know_Version) => (x.at_, x.title, x.body)) (fun y => (⟨y.1, y.2.1, y.2.2⟩ : know_Version)) (fun _ => rfl) Tryz.underlying38 cells38 (OpnL_cons rfl cells3 o3 (OpnL_cons rfl cells9 o9 (OpnL_one rfl cells9 o9)))
theorem o33 : Opn Tryz.prog 33 (List know_Version) := Opn_slice Tryz.underlying33 o38 cells38 (by decide)
theorem o35 : Opn Tryz.prog 35 know_Article := Opn_struct (β := Int × Int × (List know_Version)) (fun (x : know_Article) => (x.id_, x.group, x.versions)) (fun y => (⟨y.1, y.2.1, y.2.2⟩ : know_Article)) (fun _ => rfl) Tryz.underlying35 cells35 (OpnL_cons rfl cells3 o3 (OpnL_cons rfl cells3 o3 (OpnL_one rfl cells33 o33)))
theorem o22 : Opn Tryz.prog 22 (List know_Article) := Opn_slice Tryz.underlying22 o35 cells35 (by decide)
theorem o23 : Opn Tryz.prog 23 (List Int) := Opn_slice Tryz.underlying23 o3 cells3 (by decide)
set_option maxRecDepth 100000 in
theorem lifted (os : Os) (started : os.Started) (H : Type) (enc : TypeId × Value → H) :
  ReturnsInHanded {} Tryz.checked os 3 .any (fun w args => (Rows.topFoundSpec.pre enc Tryz.prog Tryz.f3 Rows.topFoundRow.domain false w args ∧ laidMetH Tryz.prog Rows.topFoundRow.laid w) ∧ sizedMet enc Tryz.prog Tryz.f3 (OpenSpec.ofChange Rows.topFoundSpec) false w args) (Rows.topFoundSpec.post enc Tryz.prog Tryz.f3 false true false false) := by
 refine returnsInHanded_of_change_shape (C := Tryz.checked) (X := fun w _ => laidMetH Tryz.prog Rows.topFoundRow.laid w) (fun _ _ _ hh h => h.of_heap hh) own started (by kernel_rfl) Tryz.func3
  (ChangeSpec.witness_shaped (enc := enc) (C := Tryz.checked) (os := os) (X := fun w _ => laidMetH Tryz.prog Rows.topFoundRow.laid w) false (World.laidAll Tryz.prog os Rows.topFoundRow.laid) #[.slice none 0 0, .slice none 0 0, .int .i64 0, .string ByteArray.empty, .string ByteArray.empty, .string ByteArray.empty] 8 (World.laidAll_os _ _ _) (World.shaped_of_ZipB (by kernel_rfl) (by kernel_rfl)) (by kernel_rfl) (by kernel_rfl) (by kernel_rfl)
   (by rw [MakeChecks.laidMetH_plain _ _ _ (by kernel_rfl)]; exact laidMet_laidAll _ (by kernel_rfl) (by kernel_rfl))) ?_
 intro W base args ds gs before hval0 hW _ _ hL _ hshape
 have hval : ∀ (j : Nat) t v, Tryz.f3.params[j]? = some t → args[j]? = some v → Value.okWide Tryz.prog W .any base t v := hval0
 have hgs : gs = [] := by
  obtain ⟨p, q, _, hV, _⟩ := hW
  cases gs with
  | nil => rfl
  | cons g r => exact hV.elim
 subst hgs
 have hW' := hW
 obtain ⟨p, q, hA0, hV, rfl, hfz, hnd⟩ := hW
 have hA : DataW.TrodAll enc Tryz.prog W 0 (fun _ => true) true Tryz.f3.params.toList args.toList ds p := hA0
 rw [Tryz.params3] at hA hval
 obtain ⟨v0, vs0, d0, ds0, p0, q0, hargs, rfl, rfl, h0, r0⟩ := trodAll_cons hA
 obtain ⟨v1, vs1, d1, ds1, p1, q1, rfl, rfl, rfl, h1, r1⟩ := trodAll_cons r0
 obtain ⟨v2, vs2, d2, ds2, p2, q2, rfl, rfl, rfl, h2, r2⟩ := trodAll_cons r1
 obtain ⟨v3, vs3, d3, ds3, p3, q3, rfl, rfl, rfl, h3, r3⟩ := trodAll_cons r2
 obtain ⟨v4, vs4, d4, ds4, p4, q4, rfl, rfl, rfl, h4, r4⟩ := trodAll_cons r3
 obtain ⟨v5, vs5, d5, ds5, p5, q5, rfl, rfl, rfl, h5, r5⟩ := trodAll_cons r4
 obtain ⟨rfl, rfl, rfl⟩ := trodAll_nil r5
 obtain rfl : args = #[v0, v1, v2, v3, v4, v5] := by cases args; simp_all
 obtain ⟨x0, g0, wf0⟩ := arg_slice o22 Tryz.underlying22 (hval 0 22 v0 rfl rfl) h0
 obtain ⟨x1, g1, wf1⟩ := arg_slice o23 Tryz.underlying23 (hval 1 23 v1 rfl rfl) h1
 obtain ⟨x2, rfl, wf2⟩ := arg_int Tryz.underlying3 (hval 2 3 v2 rfl rfl) h2
 obtain ⟨x3, rfl, wf3⟩ := arg_str Tryz.underlying9 (hval 3 9 v3 rfl rfl) h3
 obtain ⟨x4, rfl, wf4⟩ := arg_str Tryz.underlying9 (hval 4 9 v4 rfl rfl) h4
 obtain ⟨x5, rfl, wf5⟩ := arg_str Tryz.underlying9 (hval 5 9 v5 rfl rfl) h5
 clear hA0 hA hval0
 refine Calls.mono (porttop_TopFound_c W (fun _ _ => trivial) (Mx.shape hshape (g := 0) (of_decide_eq_true (by kernel_rfl)) (zero := #[.int .i64 0]) (t := 3) (by kernel_rfl) rfl (by kernel_rfl) (by kernel_rfl) Tryz.underlying3) x0 v0 g0 x1 v1 g1 x2 x3 x4 x5 (found_true x0 x1 x2 x3 x4 x5)) ?_
 rintro e W' ⟨v, rfl, rfl, hk⟩
 exact ⟨_, rfl, law_post rfl rfl rfl rfl rfl Tryz.underlying4 laidOut tys hW' hk.below⟩
theorem said : Rows.TopFoundSaid :=
 OpenClaim.holds_of_wide 3 Tryz.f3 rfl rfl rfl rfl rfl rfl rfl ⟨rfl, rfl, rfl, rfl, rfl⟩ rfl rfl rfl rfl rfl (by kernel_rfl) Tryz.func3 (by kernel_rfl)
  (of_decide_eq_true (by kernel_rfl)) (by unfold Func.isWrapper; first | (rw [if_pos (by decide +kernel)]; kernel_rfl) | (rw [if_neg (by decide +kernel)]; exact ⟨rfl, rfl⟩))
  (fun os started H enc _ => lifted os started H enc)
theorem proved : Rows.TopFoundCardSaid :=
 Claim7.holds_tied_plain_at .later [] [.data, .pinned] true (true, "d40de2064f88e6beaa651bf953dfb5e297c1ee1d29e2b45b425f7485a46a94f7") false
  said (fun _ h => by cases h) (by kernel_rfl) (fun _ h => by cases h) topFound_row_tie rfl ⟨rfl, rfl⟩ (by kernel_rfl) rfl
  (fun f fn hf hfn => by
   obtain rfl : f = 3 := Option.some.inj ((show Tryz.prog.funcNamed "porterslodge/porttop.TopFound" = some 3 by kernel_rfl).symm.trans hf) |>.symm
   obtain rfl : fn = Tryz.f3 := (Option.some.inj (Tryz.func3.symm.trans hfn)).symm
   exact ⟨by kernel_rfl, fun j t ht => by
    rw [Tryz.params3] at ht
    have hm : t ∈ [22, 23, 3, 9, 9, 9] := by simpa using Array.mem_of_getElem? ht
    have hall : ([22, 23, 3, 9, 9, 9].all fun u => !Tryz.prog.wantsStandIn u) = true := by kernel_rfl
    exact (show Tryz.prog.wantsStandIn t = false by simpa using List.all_eq_true.1 hall t hm)⟩)
  (by kernel_rfl)
#print axioms proved
end Go.Proofs.YtjdjmddclfhpeaaGreatDoor.TopFound
