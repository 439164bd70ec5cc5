/-
  KnowSearches: for every input the law returns true, and the input reads as it did. No condition.
-/
import Derived.Test.YtkjlbaacbkdnfaaGreatDoorRows
import Derived.Test.YtkjlbaacbkdnfaaGreatDoorKnowSearchesW6
import Derived.Test.YtkjlbaacbkdnfaaGreatDoorKnowSearchesCmpBytes
import Derived.Test.YtkjlbaacbkdnfaaGreatDoorKnowSearchesWrdLow
import Derived.Test.YtkjlbaacbkdnfaaGreatDoorKnowSearchesWrdWords
import Derived.Test.YtkjlbaacbkdnfaaGreatDoorKnowSearchesKnwStem
import Derived.Test.YtkjlbaacbkdnfaaGreatDoorKnowSearchesKnwIndex
import Derived.Test.YtkjlbaacbkdnfaaGreatDoorKnowSearchesKnwCheck
import Derived.Test.YtkjlbaacbkdnfaaGreatDoorKnowSearchesKnwFind
import Derived.Test.YtkjlbaacbkdnfaaGreatDoorKnowSearchesKnwScore
import Derived.Test.YtkjlbaacbkdnfaaGreatDoorKnowSearchesJoinBase
import Derived.Test.YtkjlbaacbkdnfaaGreatDoorKnowSearchesKnwQuery
import Derived.Test.YtkjlbaacbkdnfaaGreatDoorKnowSearchesKnwNamed
import Derived.Test.YtkjlbaacbkdnfaaGreatDoorKnowSearchesKnwPhrase
import Derived.Test.YtkjlbaacbkdnfaaGreatDoorKnowSearchesKnowSearches
import Derived.Test.YtkjlbaacbkdnfaaGreatDoorGf
import Derived.Test.YtkjlbaacbkdnfaaGreatDoorTie
import Derived.Test.YtkjlbaacbkdnfaaGreatDoorCards
import Derived.SevenTiedAt
import Derived.LaidMore
import Derived.Lay
import Derived.Stop.Joined
import Derived.Test.YtkjlbaacbkdnfaaGreatDoorHb
import Derived.Deep.DeepHandedRow
namespace Go.Proofs.YtkjlbaacbkdnfaaGreatDoor.KnowSearches
open Go Go.ChangeShapes Go.WideShapes Go.ChangeAt Go.RowKit Go.Gw Go.Pu Go.Proofs.YtkjlbaacbkdnfaaGreatDoor.M Go.Proofs.YtkjlbaacbkdnfaaGreatDoor.W
set_option linter.unusedVariables false
set_option linter.unusedSimpArgs false

theorem own : ownKnob Tryz.prog.godebug = none := by kernel_rfl
theorem laidOut : laidOutB Tryz.prog = true := by kernel_rfl
theorem tys : (Tryz.f3.params.toList.all fun t => Tryz.prog.readableRec t && decide (t < Tryz.prog.types.size)) = true := by kernel_rfl
instance : GoB know_Posting := GoB.of (β := Int × (List Int) × (List Int)) fun x => (x.id_, x.title, x.body)
instance : GoB know_Term := GoB.of (β := ByteArray × (List know_Posting)) fun x => (x.word, x.list_)
instance : GoB know_Index := GoB.of (β := (List Int) × (List Int) × (List know_Term)) fun x => (x.ids, x.sizes, x.terms)
instance : GoB know_Part := GoB.of (β := Int × Bool × (List ByteArray)) fun x => (x.kind, x.not_, x.words)
instance : GoB know_Query := GoB.of (β := (List know_Part)) fun x => (x.parts)
theorem cells28 : Tryz.prog.cellsOf 28 = 1 := by kernel_rfl
theorem cells26 : Tryz.prog.cellsOf 26 = 1 := by kernel_rfl
theorem cells44 : Tryz.prog.cellsOf 44 = 3 := by kernel_rfl
theorem cells42 : Tryz.prog.cellsOf 42 = 1 := by kernel_rfl
theorem cells4 : Tryz.prog.cellsOf 4 = 1 := by kernel_rfl
theorem cells25 : Tryz.prog.cellsOf 25 = 3 := by kernel_rfl
theorem cells23 : Tryz.prog.cellsOf 23 = 1 := by kernel_rfl
theorem cells51 : Tryz.prog.cellsOf 51 = 2 := by kernel_rfl
theorem cells49 : Tryz.prog.cellsOf 49 = 1 := by kernel_rfl
theorem cells69 : Tryz.prog.cellsOf 69 = 3 := by kernel_rfl
theorem cells9 : Tryz.prog.cellsOf 9 = 1 := by kernel_rfl
theorem cells22 : Tryz.prog.cellsOf 22 = 1 := by kernel_rfl
theorem cells3 : Tryz.prog.cellsOf 3 = 1 := by kernel_rfl
theorem o3 : OpnB Tryz.prog 3 Int := OpnB_int Tryz.underlying3
theorem o22 : OpnB Tryz.prog 22 (List Int) := OpnB_slice Tryz.underlying22 o3 cells3 (by decide)
theorem o9 : OpnB Tryz.prog 9 ByteArray := OpnB_str Tryz.underlying9
theorem o69 : OpnB Tryz.prog 69 know_Posting := OpnB_struct (β := Int × (List Int) × (List Int)) (fun (x : know_Posting) => (x.id_, x.title, x.body)) (fun y => (⟨y.1, y.2.1, y.2.2⟩ : know_Posting)) (fun _ => rfl) Tryz.underlying69 cells69 (OpnLB_cons rfl cells3 o3 (OpnLB_cons rfl cells22 o22 (OpnLB_one rfl cells22 o22)))
theorem o49 : OpnB Tryz.prog 49 (List know_Posting) := OpnB_slice Tryz.underlying49 o69 cells69 (by decide)
theorem o51 : OpnB Tryz.prog 51 know_Term := OpnB_struct (β := ByteArray × (List know_Posting)) (fun (x : know_Term) => (x.word, x.list_)) (fun y => (⟨y.1, y.2⟩ : know_Term)) (fun _ => rfl) Tryz.underlying51 cells51 (OpnLB_cons rfl cells9 o9 (OpnLB_one rfl cells49 o49))
theorem o23 : OpnB Tryz.prog 23 (List know_Term) := OpnB_slice Tryz.underlying23 o51 cells51 (by decide)
theorem o25 : OpnB Tryz.prog 25 know_Index := OpnB_struct (β := (List Int) × (List Int) × (List know_Term)) (fun (x : know_Index) => (x.ids, x.sizes, x.terms)) (fun y => (⟨y.1, y.2.1, y.2.2⟩ : know_Index)) (fun _ => rfl) Tryz.underlying25 cells25 (OpnLB_cons rfl cells22 o22 (OpnLB_cons rfl cells22 o22 (OpnLB_one rfl cells23 o23)))
theorem o4 : OpnB Tryz.prog 4 Bool := OpnB_bool Tryz.underlying4
theorem o42 : OpnB Tryz.prog 42 (List ByteArray) := OpnB_slice Tryz.underlying42 o9 cells9 (by decide)
theorem o44 : OpnB Tryz.prog 44 know_Part := OpnB_struct (β := Int × Bool × (List ByteArray)) (fun (x : know_Part) => (x.kind, x.not_, x.words)) (fun y => (⟨y.1, y.2.1, y.2.2⟩ : know_Part)) (fun _ => rfl) Tryz.underlying44 cells44 (OpnLB_cons rfl cells3 o3 (OpnLB_cons rfl cells4 o4 (OpnLB_one rfl cells42 o42)))
theorem o26 : OpnB Tryz.prog 26 (List know_Part) := OpnB_slice Tryz.underlying26 o44 cells44 (by decide)
theorem o28 : OpnB Tryz.prog 28 know_Query := OpnB_struct (β := (List know_Part)) (fun (x : know_Query) => (x.parts)) (fun y => (⟨y⟩ : know_Query)) (fun _ => rfl) Tryz.underlying28 cells28 (OpnLB_one rfl cells26 o26)
theorem bulkAll {H : Type} : ∀ l : List (DataW H), Rows.uptoBulkAll l = (l.map Rows.uptoBulk).sum
  | [] => rfl
  | d :: l => by rw [Rows.uptoBulkAll, bulkAll l]; rfl
theorem bulkU {H : Type} : IsBulk (Rows.uptoBulk (H := H)) where
  one d := by
    cases d with
    | lit l => cases l <;> simp [Rows.uptoBulk]
    | nil => simp [Rows.uptoBulk]
    | ptr d => simp [Rows.uptoBulk]
    | slice elems spare => simp [Rows.uptoBulk]
    | agg parts => simp [Rows.uptoBulk]
    | iface t d => simp [Rows.uptoBulk]
    | map entries => simp [Rows.uptoBulk]
    | held h => simp [Rows.uptoBulk]
  str b := by simp [Rows.uptoBulk]
  slice es sp := by simp only [Rows.uptoBulk, bulkAll]; omega
  agg ps := by simp only [Rows.uptoBulk, bulkAll]; omega

set_option maxRecDepth 100000 in
theorem laid_met (os : Os) : laidMet Tryz.prog Rows.knowSearchesUptoRow.laid ((World.laidAll Tryz.prog os Rows.knowSearchesUptoRow.laid).forCall (fun _ _ => 0) ⟨#[], #[.agg #[.slice none 0 0, .slice none 0 0, .slice none 0 0], .agg #[.slice none 0 0], .int .i64 0], []⟩).memory := laidMet_laidAll _ (by kernel_rfl) (by kernel_rfl)
set_option maxRecDepth 100000 in
theorem reads (os : Os) {H : Type} (enc : TypeId × Value → H) : ∃ places, DataW.whole enc Tryz.prog ((World.laidAll Tryz.prog os Rows.knowSearchesUptoRow.laid).forCall (fun _ _ => 0) ⟨#[], #[.agg #[.slice none 0 0, .slice none 0 0, .slice none 0 0], .agg #[.slice none 0 0], .int .i64 0], []⟩).memory Tryz.f3.params.toList Rows.knowSearchesSpec.vars false #[.agg #[.slice none 0 0, .slice none 0 0, .slice none 0 0], .agg #[.slice none 0 0], .int .i64 0].toList 8 = some ([.agg [.nil, .nil, .nil], .agg [.nil], .lit (.int .i64 0)], [], places) := ⟨[], by kernel_rfl⟩
set_option maxRecDepth 100000 in
theorem lifted (os : Os) (started : os.Started) (H : Type) (enc : TypeId × Value → H) (F : Stop.Interp) :
    ReturnsInHanded {} Tryz.checked os 3 .any ((Rows.OpenSpec.upto Rows.knowSearchesSpec).preRow enc Tryz.prog Tryz.f3 Rows.knowSearchesUptoRow.domain false Rows.knowSearchesUptoRow.laid) (((Rows.OpenSpec.upto Rows.knowSearchesSpec).at F).post enc Tryz.prog Tryz.f3 false true false false) := by
  obtain ⟨places, hx⟩ := reads os enc
  refine returnsInHanded_of_row (C := Tryz.checked) (s := (Rows.OpenSpec.upto Rows.knowSearchesSpec)) own started (by kernel_rfl) Tryz.func3
    (witness_row_at (enc := enc) (C := Tryz.checked) false (World.laidAll Tryz.prog os Rows.knowSearchesUptoRow.laid) #[.agg #[.slice none 0 0, .slice none 0 0, .slice none 0 0], .agg #[.slice none 0 0], .int .i64 0] (World.laidAll_os _ _ _) (by kernel_rfl) (by kernel_rfl) (by kernel_rfl)
      (OpenSpec.preRow_of_cond 8 hx (by kernel_rfl) (fun k hk => by cases hk; kernel_rfl) (by kernel_rfl) (laid_met os))) ?_
  intro W base args ds gs before hval0 hW _ hcond _ hL hshape _
  have hval : ∀ (j : Nat) t v, Tryz.f3.params[j]? = some t → args[j]? = some v → Value.okWide Tryz.prog W .any base t v := hval0
  have hgs : gs = [] := by
    obtain ⟨p, q, _, hV, _⟩ := hW
    cases gs with
    | nil => rfl
    | cons g r => exact hV.elim
  subst hgs
  have hW' := hW
  obtain ⟨p, q, hA0, hV, rfl, hfz, hnd⟩ := hW
  have hA : DataW.TrodAll enc Tryz.prog W 0 (fun _ => true) true Tryz.f3.params.toList args.toList ds p := hA0
  rw [Tryz.params3] at hA hval
  obtain ⟨v0, vs0, d0, ds0, p0, q0, hargs, rfl, rfl, h0, r0⟩ := trodAll_cons hA
  obtain ⟨v1, vs1, d1, ds1, p1, q1, rfl, rfl, rfl, h1, r1⟩ := trodAll_cons r0
  obtain ⟨v2, vs2, d2, ds2, p2, q2, rfl, rfl, rfl, h2, r2⟩ := trodAll_cons r1
  obtain ⟨rfl, rfl, rfl⟩ := trodAll_nil r2
  obtain rfl : args = #[v0, v1, v2] := by cases args; simp_all
  obtain ⟨x0, cs0, rfl, hr0, wf0, bk0⟩ := argB_struct bulkU o25 Tryz.underlying25 (hval 0 25 v0 rfl rfl) h0
  obtain ⟨_, _, rfl, ⟨u0_1, rfl, u0g1⟩, ⟨_, _, rfl, ⟨u0_2, rfl, u0g2⟩, ⟨u0_3, rfl, u0g3⟩⟩⟩ := hr0
  obtain ⟨x1, cs1, rfl, hr1, wf1, bk1⟩ := argB_struct bulkU o28 Tryz.underlying28 (hval 1 28 v1 rfl rfl) h1
  obtain ⟨u1_1, rfl, u1g1⟩ := hr1
  obtain ⟨x2, rfl, wf2, bk2⟩ := argB_int bulkU Tryz.underlying3 (hval 2 3 v2 rfl rfl) h2
  clear hA0 hA hval0
  have hbulk : GoB.bulk x0 + GoB.bulk x1 + GoB.bulk x2 ≤ 1048576 := by
    have h := of_decide_eq_true (hcond _ rfl)
    simp only [List.cons_append, List.nil_append, List.append_nil, Rows.uptoBulkAll] at h
    omega
  refine Calls.mono (portlaw2_KnowSearches_c W (fun _ _ => trivial) x0 u0_1 u0g1 u0_2 u0g2 u0_3 u0g3 x1 u1_1 u1g1 x2 (searches_true x0 x1 x2 _ hbulk)) ?_
  rintro e W' ⟨v, rfl, rfl, hk⟩
  exact ⟨_, rfl, law_post rfl rfl rfl rfl rfl Tryz.underlying4 laidOut tys hW' hk.below⟩

theorem said : Rows.KnowSearchesUptoSaid :=
  OpenClaim.holds_of_cond 3 Tryz.f3 rfl rfl rfl rfl rfl rfl rfl ⟨rfl, rfl, rfl, rfl, rfl⟩ rfl rfl rfl rfl rfl (by kernel_rfl) Tryz.func3 (by kernel_rfl)
    (of_decide_eq_true (by kernel_rfl)) (by unfold Func.isWrapper; first | (rw [if_pos (by decide +kernel)]; kernel_rfl) | (rw [if_neg (by decide +kernel)]; exact ⟨rfl, rfl⟩))
    (fun os started H enc _ F => by rw [OpenClaim.pre_eq_preRow]; exact lifted os started H enc F)

theorem proved : Rows.KnowSearchesUptoCardSaid :=
  Claim7.holds_tied_plain_at .later [] [.data, .pinned] true (true, "34689c1a295e64ec9cf059bad304908643e777de03a148084db1eb6f0b5ea9ee") false
    said (fun _ h => by cases h) (by kernel_rfl) (fun _ h => by cases h) knowSearchesUpto_row_tie rfl ⟨rfl, rfl⟩ (by kernel_rfl) rfl
    (fun f fn hf hfn => by
      obtain rfl : f = 3 := Option.some.inj ((show Tryz.prog.funcNamed "porterslodge/portlaw2.KnowSearches" = some 3 by kernel_rfl).symm.trans hf) |>.symm
      obtain rfl : fn = Tryz.f3 := (Option.some.inj (Tryz.func3.symm.trans hfn)).symm
      exact ⟨by kernel_rfl, fun j t ht => by
        rw [Tryz.params3] at ht
        have hm : t ∈ [25, 28, 3] := by simpa using Array.mem_of_getElem? ht
        have hall : ([25, 28, 3].all fun u => !Tryz.prog.wantsStandIn u) = true := by kernel_rfl
        exact (show Tryz.prog.wantsStandIn t = false by simpa using List.all_eq_true.1 hall t hm)⟩)
    (by kernel_rfl)
#print axioms proved
end Go.Proofs.YtkjlbaacbkdnfaaGreatDoor.KnowSearches
