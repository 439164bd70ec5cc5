/-
  KnowWords: for every input the law returns true, and the input reads as it did. No condition.
-/
import Derived.Test.YtebhdihfjeiadaaGreatDoorRows
import Derived.Test.YtebhdihfjeiadaaGreatDoorKnowWordsW2
import Derived.Test.YtebhdihfjeiadaaGreatDoorKnowWordsWrdLow
import Derived.Test.YtebhdihfjeiadaaGreatDoorKnowWordsWrdWords
import Derived.Test.YtebhdihfjeiadaaGreatDoorKnowWordsKnwStem
import Derived.Test.YtebhdihfjeiadaaGreatDoorKnowWordsNumText
import Derived.Test.YtebhdihfjeiadaaGreatDoorKnowWordsKwLinks
import Derived.Test.YtebhdihfjeiadaaGreatDoorKnowWordsKwNums
import Derived.Test.YtebhdihfjeiadaaGreatDoorKnowWordsKwRef
import Derived.Test.YtebhdihfjeiadaaGreatDoorKnowWordsKnowWords
import Derived.Test.YtebhdihfjeiadaaGreatDoorGf
import Derived.Test.YtebhdihfjeiadaaGreatDoorTie
import Derived.Test.YtebhdihfjeiadaaGreatDoorCards
import Derived.SevenTiedAt
import Derived.LaidMore
import Derived.Lay
import Derived.Stop.Joined
import Derived.Test.YtebhdihfjeiadaaGreatDoorHb
import Derived.Deep.DeepHandedRow
namespace Go.Proofs.YtebhdihfjeiadaaGreatDoor.KnowWords
open Go Go.ChangeShapes Go.WideShapes Go.ChangeAt Go.RowKit Go.Gw Go.Pu Go.Proofs.YtebhdihfjeiadaaGreatDoor.M Go.Proofs.YtebhdihfjeiadaaGreatDoor.W
set_option linter.unusedVariables false
set_option linter.unusedSimpArgs false

theorem own : ownKnob Tryz.prog.godebug = none := by kernel_rfl
theorem laidOut : laidOutB Tryz.prog = true := by kernel_rfl
theorem tys : (Tryz.f3.params.toList.all fun t => Tryz.prog.readableRec t && decide (t < Tryz.prog.types.size)) = true := by kernel_rfl
theorem cells9 : Tryz.prog.cellsOf 9 = 1 := by kernel_rfl
theorem o9 : OpnB Tryz.prog 9 ByteArray := OpnB_str Tryz.underlying9
theorem bulkAll {H : Type} : ∀ l : List (DataW H), Rows.uptoBulkAll l = (l.map Rows.uptoBulk).sum
  | [] => rfl
  | d :: l => by rw [Rows.uptoBulkAll, bulkAll l]; rfl
theorem bulkU {H : Type} : IsBulk (Rows.uptoBulk (H := H)) where
  one d := by
    cases d with
    | lit l => cases l <;> simp [Rows.uptoBulk]
    | nil => simp [Rows.uptoBulk]
    | ptr d => simp [Rows.uptoBulk]
    | slice elems spare => simp [Rows.uptoBulk]
    | agg parts => simp [Rows.uptoBulk]
    | iface t d => simp [Rows.uptoBulk]
    | map entries => simp [Rows.uptoBulk]
    | held h => simp [Rows.uptoBulk]
  str b := by simp [Rows.uptoBulk]
  slice es sp := by simp only [Rows.uptoBulk, bulkAll]; omega
  agg ps := by simp only [Rows.uptoBulk, bulkAll]; omega

set_option maxRecDepth 100000 in
theorem laid_met (os : Os) : laidMet Tryz.prog Rows.knowWordsUptoRow.laid ((World.laidAll Tryz.prog os Rows.knowWordsUptoRow.laid).forCall (fun _ _ => 0) ⟨#[], #[.string ByteArray.empty], []⟩).memory := laidMet_laidAll _ (by kernel_rfl) (by kernel_rfl)
set_option maxRecDepth 100000 in
theorem reads (os : Os) {H : Type} (enc : TypeId × Value → H) : ∃ places, DataW.whole enc Tryz.prog ((World.laidAll Tryz.prog os Rows.knowWordsUptoRow.laid).forCall (fun _ _ => 0) ⟨#[], #[.string ByteArray.empty], []⟩).memory Tryz.f3.params.toList Rows.knowWordsSpec.vars false #[.string ByteArray.empty].toList 8 = some ([.lit (.string [])], [], places) := ⟨[], by kernel_rfl⟩
set_option maxRecDepth 100000 in
theorem lifted (os : Os) (started : os.Started) (H : Type) (enc : TypeId × Value → H) (F : Stop.Interp) :
    ReturnsInHanded {} Tryz.checked os 3 .any ((Rows.OpenSpec.upto Rows.knowWordsSpec).preRow enc Tryz.prog Tryz.f3 Rows.knowWordsUptoRow.domain false Rows.knowWordsUptoRow.laid) (((Rows.OpenSpec.upto Rows.knowWordsSpec).at F).post enc Tryz.prog Tryz.f3 false true false false) := by
  obtain ⟨places, hx⟩ := reads os enc
  refine returnsInHanded_of_row (C := Tryz.checked) (s := (Rows.OpenSpec.upto Rows.knowWordsSpec)) own started (by kernel_rfl) Tryz.func3
    (witness_row_at (enc := enc) (C := Tryz.checked) false (World.laidAll Tryz.prog os Rows.knowWordsUptoRow.laid) #[.string ByteArray.empty] (World.laidAll_os _ _ _) (by kernel_rfl) (by kernel_rfl) (by kernel_rfl)
      (OpenSpec.preRow_of_cond 8 hx (by kernel_rfl) (fun k hk => by cases hk; kernel_rfl) (by kernel_rfl) (laid_met os))) ?_
  intro W base args ds gs before hval0 hW _ hcond _ hL hshape _
  have hval : ∀ (j : Nat) t v, Tryz.f3.params[j]? = some t → args[j]? = some v → Value.okWide Tryz.prog W .any base t v := hval0
  have hgs : gs = [] := by
    obtain ⟨p, q, _, hV, _⟩ := hW
    cases gs with
    | nil => rfl
    | cons g r => exact hV.elim
  subst hgs
  have hW' := hW
  obtain ⟨p, q, hA0, hV, rfl, hfz, hnd⟩ := hW
  have hA : DataW.TrodAll enc Tryz.prog W 0 (fun _ => true) true Tryz.f3.params.toList args.toList ds p := hA0
  rw [Tryz.params3] at hA hval
  obtain ⟨v0, vs0, d0, ds0, p0, q0, hargs, rfl, rfl, h0, r0⟩ := trodAll_cons hA
  obtain ⟨rfl, rfl, rfl⟩ := trodAll_nil r0
  obtain rfl : args = #[v0] := by cases args; simp_all
  obtain ⟨x0, rfl, wf0, bk0⟩ := argB_str bulkU Tryz.underlying9 (hval 0 9 v0 rfl rfl) h0
  clear hA0 hA hval0
  have hbulk : GoB.bulk x0 ≤ 1048576 := by
    have h := of_decide_eq_true (hcond _ rfl)
    simp only [List.cons_append, List.nil_append, List.append_nil, Rows.uptoBulkAll] at h
    omega
  refine Calls.mono (portlaw2_KnowWords_c W (fun _ _ => trivial) (show Fz Tryz_FR _ _ from ⟨(Er.laid (n := "strconv.ErrSyntax") (nm := "*errors.errorString") (d := .ptr (.agg [.lit (.string [105, 110, 118, 97, 108, 105, 100, 32, 115, 121, 110, 116, 97, 120])])) hL (by kernel_rfl) (List.mem_iff_getElem?.2 ⟨5, rfl⟩) (g := 0) (by kernel_rfl) (by kernel_rfl) Tryz.underlying37), (Er.laid (n := "strconv.ErrRange") (nm := "*errors.errorString") (d := .ptr (.agg [.lit (.string [118, 97, 108, 117, 101, 32, 111, 117, 116, 32, 111, 102, 32, 114, 97, 110, 103, 101])])) hL (by kernel_rfl) (List.mem_iff_getElem?.2 ⟨4, rfl⟩) (g := 1) (by kernel_rfl) (by kernel_rfl) Tryz.underlying37)⟩) x0 (words_true x0 hbulk)) ?_
  rintro e W' ⟨v, rfl, rfl, hk⟩
  exact ⟨_, rfl, law_post rfl rfl rfl rfl rfl Tryz.underlying4 laidOut tys hW' hk.below⟩

theorem said : Rows.KnowWordsUptoSaid :=
  OpenClaim.holds_of_cond 3 Tryz.f3 rfl rfl rfl rfl rfl rfl rfl ⟨rfl, rfl, rfl, rfl, rfl⟩ rfl rfl rfl rfl rfl (by kernel_rfl) Tryz.func3 (by kernel_rfl)
    (of_decide_eq_true (by kernel_rfl)) (by unfold Func.isWrapper; first | (rw [if_pos (by decide +kernel)]; kernel_rfl) | (rw [if_neg (by decide +kernel)]; exact ⟨rfl, rfl⟩))
    (fun os started H enc _ F => by rw [OpenClaim.pre_eq_preRow]; exact lifted os started H enc F)

theorem proved : Rows.KnowWordsUptoCardSaid :=
  Claim7.holds_tied_plain_at .later [] [.data, .data, .data, .data, .sentinel, .sentinel, .pinned] true (true, "5674736066559ead8da1510170659662f099d7abf0ee1b8c09a049e8545faf30") true
    said (fun _ h => by cases h) (by kernel_rfl) (fun _ h => by cases h) knowWordsUpto_row_tie rfl ⟨rfl, rfl⟩ (by kernel_rfl) rfl
    (fun f fn hf hfn => by
      obtain rfl : f = 3 := Option.some.inj ((show Tryz.prog.funcNamed "porterslodge/portlaw2.KnowWords" = some 3 by kernel_rfl).symm.trans hf) |>.symm
      obtain rfl : fn = Tryz.f3 := (Option.some.inj (Tryz.func3.symm.trans hfn)).symm
      exact ⟨by kernel_rfl, fun j t ht => by
        rw [Tryz.params3] at ht
        have hm : t ∈ [9] := by simpa using Array.mem_of_getElem? ht
        have hall : ([9].all fun u => !Tryz.prog.wantsStandIn u) = true := by kernel_rfl
        exact (show Tryz.prog.wantsStandIn t = false by simpa using List.all_eq_true.1 hall t hm)⟩)
    (by kernel_rfl)
#print axioms proved
end Go.Proofs.YtebhdihfjeiadaaGreatDoor.KnowWords
