import Derived.Test.YtldkdabcdbgpbaaGreatDoorRows
import Derived.Test.YtldkdabcdbgpbaaGreatDoorIndexChangesW5
import Derived.Test.YtldkdabcdbgpbaaGreatDoorIndexChangesKxA
import Derived.Test.YtldkdabcdbgpbaaGreatDoorIndexChangesKxB
import Derived.Test.YtldkdabcdbgpbaaGreatDoorIndexChangesKxC
import Derived.Test.YtldkdabcdbgpbaaGreatDoorIndexChangesKxD
import Derived.Test.YtldkdabcdbgpbaaGreatDoorIndexChangesIndexChanges
import Derived.Test.YtldkdabcdbgpbaaGreatDoorGf
import Derived.Test.YtldkdabcdbgpbaaGreatDoorTie
import Derived.Test.YtldkdabcdbgpbaaGreatDoorCards
import Derived.SevenTiedAt
import Derived.LaidMore
import Derived.Lay
import Derived.Stop.Joined
import Derived.Test.YtldkdabcdbgpbaaGreatDoorHb
import Derived.Deep.DeepHandedRow
namespace Go.Proofs.YtldkdabcdbgpbaaGreatDoor.IndexChanges
open Go Go.ChangeShapes Go.WideShapes Go.ChangeAt Go.RowKit Go.Gw Go.Pu Go.Proofs.YtldkdabcdbgpbaaGreatDoor.M Go.Proofs.YtldkdabcdbgpbaaGreatDoor.W
set_option linter.unusedVariables false
set_option linter.unusedSimpArgs false
theorem own : ownKnob Tryz.prog.godebug = none := by kernel_rfl
theorem laidOut : laidOutB Tryz.prog = true := by kernel_rfl
theorem tys : (Tryz.f4.params.toList.all fun t => Tryz.prog.readableRec t && decide (t < Tryz.prog.types.size)) = true := by kernel_rfl
instance : GoB know_Posting := GoB.of (β := Int × (List Int) × (List Int)) fun x => (x.id_, x.title, x.body)
instance : GoB know_Term := GoB.of (β := ByteArray × (List know_Posting)) fun x => (x.word, x.list_)
instance : GoB know_Index := GoB.of (β := (List Int) × (List Int) × (List know_Term)) fun x => (x.ids, x.sizes, x.terms)
instance : GoB know_Entry := GoB.of (β := Int × ByteArray × ByteArray) fun x => (x.id_, x.title, x.body)
theorem cells33 : Tryz.prog.cellsOf 33 = 3 := by kernel_rfl
theorem cells26 : Tryz.prog.cellsOf 26 = 3 := by kernel_rfl
theorem cells24 : Tryz.prog.cellsOf 24 = 1 := by kernel_rfl
theorem cells83 : Tryz.prog.cellsOf 83 = 2 := by kernel_rfl
theorem cells81 : Tryz.prog.cellsOf 81 = 1 := by kernel_rfl
theorem cells86 : Tryz.prog.cellsOf 86 = 3 := by kernel_rfl
theorem cells9 : Tryz.prog.cellsOf 9 = 1 := by kernel_rfl
theorem cells23 : Tryz.prog.cellsOf 23 = 1 := by kernel_rfl
theorem cells3 : Tryz.prog.cellsOf 3 = 1 := by kernel_rfl
theorem o3 : OpnB Tryz.prog 3 Int := OpnB_int Tryz.underlying3
theorem o23 : OpnB Tryz.prog 23 (List Int) := OpnB_slice Tryz.underlying23 o3 cells3 (by decide)
theorem o9 : OpnB Tryz.prog 9 ByteArray := OpnB_str Tryz.underlying9
theorem o86 : OpnB Tryz.prog 86 know_Posting := OpnB_struct (β := Int × (List Int) × (List Int)) (fun (x : know_Posting) => (x.id_, x.title, x.body)) (fun y => (⟨y.1, y.2.1, y.2.2⟩ : know_Posting)) (fun _ => rfl) Tryz.underlying86 cells86 (OpnLB_cons rfl cells3 o3 (OpnLB_cons rfl cells23 o23 (OpnLB_one rfl cells23 o23)))
theorem o81 : OpnB Tryz.prog 81 (List know_Posting) := OpnB_slice Tryz.underlying81 o86 cells86 (by decide)
theorem o83 : OpnB Tryz.prog 83 know_Term := OpnB_struct (β := ByteArray × (List know_Posting)) (fun (x : know_Term) => (x.word, x.list_)) (fun y => (⟨y.1, y.2⟩ : know_Term)) (fun _ => rfl) Tryz.underlying83 cells83 (OpnLB_cons rfl cells9 o9 (OpnLB_one rfl cells81 o81))
theorem o24 : OpnB Tryz.prog 24 (List know_Term) := OpnB_slice Tryz.underlying24 o83 cells83 (by decide)
theorem o26 : OpnB Tryz.prog 26 know_Index := OpnB_struct (β := (List Int) × (List Int) × (List know_Term)) (fun (x : know_Index) => (x.ids, x.sizes, x.terms)) (fun y => (⟨y.1, y.2.1, y.2.2⟩ : know_Index)) (fun _ => rfl) Tryz.underlying26 cells26 (OpnLB_cons rfl cells23 o23 (OpnLB_cons rfl cells23 o23 (OpnLB_one rfl cells24 o24)))
theorem o33 : OpnB Tryz.prog 33 know_Entry := OpnB_struct (β := Int × ByteArray × ByteArray) (fun (x : know_Entry) => (x.id_, x.title, x.body)) (fun y => (⟨y.1, y.2.1, y.2.2⟩ : know_Entry)) (fun _ => rfl) Tryz.underlying33 cells33 (OpnLB_cons rfl cells3 o3 (OpnLB_cons rfl cells9 o9 (OpnLB_one rfl cells9 o9)))
theorem bulkAll {H : Type} : ∀ l : List (DataW H), Rows.uptoBulkAll l = (l.map Rows.uptoBulk).sum
 | [] => rfl
 | d :: l => by rw [Rows.uptoBulkAll, bulkAll l]; rfl
theorem bulkU {H : Type} : IsBulk (Rows.uptoBulk (H := H)) where
 one d := by
  cases d with
  | lit l => cases l <;> simp [Rows.uptoBulk]
  | nil => simp [Rows.uptoBulk]
  | ptr d => simp [Rows.uptoBulk]
  | slice elems spare => simp [Rows.uptoBulk]
  | agg parts => simp [Rows.uptoBulk]
  | iface t d => simp [Rows.uptoBulk]
  | map entries => simp [Rows.uptoBulk]
  | held h => simp [Rows.uptoBulk]
 str b := by simp [Rows.uptoBulk]
 slice es sp := by simp only [Rows.uptoBulk, bulkAll]; omega
 agg ps := by simp only [Rows.uptoBulk, bulkAll]; omega
set_option maxRecDepth 100000 in
theorem laid_met (os : Os) : laidMet Tryz.prog Rows.indexChangesUptoRow.laid ((World.laidAll Tryz.prog os Rows.indexChangesUptoRow.laid).forCall (fun _ _ => 0) ⟨#[], #[.agg #[.slice none 0 0, .slice none 0 0, .slice none 0 0], .agg #[.int .i64 0, .string ByteArray.empty, .string ByteArray.empty], .int .i64 0], []⟩).memory := laidMet_laidAll _ (by kernel_rfl) (by kernel_rfl)
set_option maxRecDepth 100000 in
theorem reads (os : Os) {H : Type} (enc : TypeId × Value → H) : ∃ places, DataW.whole enc Tryz.prog ((World.laidAll Tryz.prog os Rows.indexChangesUptoRow.laid).forCall (fun _ _ => 0) ⟨#[], #[.agg #[.slice none 0 0, .slice none 0 0, .slice none 0 0], .agg #[.int .i64 0, .string ByteArray.empty, .string ByteArray.empty], .int .i64 0], []⟩).memory Tryz.f4.params.toList Rows.indexChangesSpec.vars false #[.agg #[.slice none 0 0, .slice none 0 0, .slice none 0 0], .agg #[.int .i64 0, .string ByteArray.empty, .string ByteArray.empty], .int .i64 0].toList 8 = some ([.agg [.nil, .nil, .nil], .agg [.lit (.int .i64 0), .lit (.string []), .lit (.string [])], .lit (.int .i64 0)], [], places) := ⟨[], by kernel_rfl⟩
set_option maxRecDepth 100000 in
theorem lifted (os : Os) (started : os.Started) (H : Type) (enc : TypeId × Value → H) (F : Stop.Interp) :
  ReturnsInHanded {} Tryz.checked os 4 .any ((Rows.OpenSpec.upto Rows.indexChangesSpec).preRow enc Tryz.prog Tryz.f4 Rows.indexChangesUptoRow.domain false Rows.indexChangesUptoRow.laid) (((Rows.OpenSpec.upto Rows.indexChangesSpec).at F).post enc Tryz.prog Tryz.f4 false true false false) := by
 obtain ⟨places, hx⟩ := reads os enc
 refine returnsInHanded_of_row (C := Tryz.checked) (s := (Rows.OpenSpec.upto Rows.indexChangesSpec)) own started (by kernel_rfl) Tryz.func4
  (witness_row_at (enc := enc) (C := Tryz.checked) false (World.laidAll Tryz.prog os Rows.indexChangesUptoRow.laid) #[.agg #[.slice none 0 0, .slice none 0 0, .slice none 0 0], .agg #[.int .i64 0, .string ByteArray.empty, .string ByteArray.empty], .int .i64 0] (World.laidAll_os _ _ _) (by kernel_rfl) (by kernel_rfl) (by kernel_rfl)
   (OpenSpec.preRow_of_cond 8 hx (by kernel_rfl) (fun k hk => by cases hk; kernel_rfl) (by kernel_rfl) (laid_met os))) ?_
 intro W base args ds gs before hval0 hW _ hcond _ hL hshape _
 have hval : ∀ (j : Nat) t v, Tryz.f4.params[j]? = some t → args[j]? = some v → Value.okWide Tryz.prog W .any base t v := hval0
 have hgs : gs = [] := by
  obtain ⟨p, q, _, hV, _⟩ := hW
  cases gs with
  | nil => rfl
  | cons g r => exact hV.elim
 subst hgs
 have hW' := hW
 obtain ⟨p, q, hA0, hV, rfl, hfz, hnd⟩ := hW
 have hA : DataW.TrodAll enc Tryz.prog W 0 (fun _ => true) true Tryz.f4.params.toList args.toList ds p := hA0
 rw [Tryz.params4] at hA hval
 obtain ⟨v0, vs0, d0, ds0, p0, q0, hargs, rfl, rfl, h0, r0⟩ := trodAll_cons hA
 obtain ⟨v1, vs1, d1, ds1, p1, q1, rfl, rfl, rfl, h1, r1⟩ := trodAll_cons r0
 obtain ⟨v2, vs2, d2, ds2, p2, q2, rfl, rfl, rfl, h2, r2⟩ := trodAll_cons r1
 obtain ⟨rfl, rfl, rfl⟩ := trodAll_nil r2
 obtain rfl : args = #[v0, v1, v2] := by cases args; simp_all
 obtain ⟨x0, cs0, rfl, hr0, wf0, bk0⟩ := argB_struct bulkU o26 Tryz.underlying26 (hval 0 26 v0 rfl rfl) h0
 obtain ⟨_, _, rfl, ⟨u0_1, rfl, u0g1⟩, ⟨_, _, rfl, ⟨u0_2, rfl, u0g2⟩, ⟨u0_3, rfl, u0g3⟩⟩⟩ := hr0
 obtain ⟨x1, cs1, rfl, hr1, wf1, bk1⟩ := argB_struct bulkU o33 Tryz.underlying33 (hval 1 33 v1 rfl rfl) h1
 obtain ⟨_, _, rfl, rfl, ⟨_, _, rfl, rfl, rfl⟩⟩ := hr1
 obtain ⟨x2, rfl, wf2, bk2⟩ := argB_int bulkU Tryz.underlying3 (hval 2 3 v2 rfl rfl) h2
 clear hA0 hA hval0
 have hbulk : GoB.bulk x0 + GoB.bulk x1 + GoB.bulk x2 ≤ 1048576 := by
  have h := of_decide_eq_true (hcond _ rfl)
  simp only [List.cons_append, List.nil_append, List.append_nil, Rows.uptoBulkAll] at h
  omega
 refine Calls.mono (portlaw2_IndexChanges_c W (fun _ _ => trivial) (Mx.shape hshape (g := 0) (of_decide_eq_true (by kernel_rfl)) (zero := #[.int .i64 0]) (t := 3) (by kernel_rfl) rfl (by kernel_rfl) (by kernel_rfl) Tryz.underlying3) x0 u0_1 u0g1 u0_2 u0g2 u0_3 u0g3 x1 x2 (changes_true x0 x1 x2 _ _ hbulk)) ?_
 rintro e W' ⟨v, rfl, rfl, hk⟩
 exact ⟨_, rfl, law_post rfl rfl rfl rfl rfl Tryz.underlying4 laidOut tys hW' hk.below⟩
theorem said : Rows.IndexChangesUptoSaid :=
 OpenClaim.holds_of_cond 4 Tryz.f4 rfl rfl rfl rfl rfl rfl rfl ⟨rfl, rfl, rfl, rfl, rfl⟩ rfl rfl rfl rfl rfl (by kernel_rfl) Tryz.func4 (by kernel_rfl)
  (of_decide_eq_true (by kernel_rfl)) (by unfold Func.isWrapper; first | (rw [if_pos (by decide +kernel)]; kernel_rfl) | (rw [if_neg (by decide +kernel)]; exact ⟨rfl, rfl⟩))
  (fun os started H enc _ F => by rw [OpenClaim.pre_eq_preRow]; exact lifted os started H enc F)
theorem proved : Rows.IndexChangesUptoCardSaid :=
 Claim7.holds_tied_plain_at .later [] [.data, .pinned] true (true, "523221c54faec6eddf641ffc094cb12c50c17e43efc7fb52f2f0b667246de066") true
  said (fun _ h => by cases h) (by kernel_rfl) (fun _ h => by cases h) indexChangesUpto_row_tie rfl ⟨rfl, rfl⟩ (by kernel_rfl) rfl
  (fun f fn hf hfn => by
   obtain rfl : f = 4 := Option.some.inj ((show Tryz.prog.funcNamed "porterslodge/portlaw2.IndexChanges" = some 4 by kernel_rfl).symm.trans hf) |>.symm
   obtain rfl : fn = Tryz.f4 := (Option.some.inj (Tryz.func4.symm.trans hfn)).symm
   exact ⟨by kernel_rfl, fun j t ht => by
    rw [Tryz.params4] at ht
    have hm : t ∈ [26, 33, 3] := by simpa using Array.mem_of_getElem? ht
    have hall : ([26, 33, 3].all fun u => !Tryz.prog.wantsStandIn u) = true := by kernel_rfl
    exact (show Tryz.prog.wantsStandIn t = false by simpa using List.all_eq_true.1 hall t hm)⟩)
  (by kernel_rfl)
#print axioms proved
end Go.Proofs.YtldkdabcdbgpbaaGreatDoor.IndexChanges
