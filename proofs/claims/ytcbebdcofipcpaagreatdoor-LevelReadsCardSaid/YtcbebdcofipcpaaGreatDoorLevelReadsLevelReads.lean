/-
  LevelReads: a policy out of its text: plain part.
-/
import Derived.Test.YtcbebdcofipcpaaGreatDoorLevelReadsLvlLine
import Derived.Test.YtcbebdcofipcpaaGreatDoorLevelReadsLvlCheck
namespace Go.Proofs.YtcbebdcofipcpaaGreatDoor.M
open Go Go.Pu
set_option linter.unusedSimpArgs false
set_option linter.unusedVariables false

/-- what a line makes of a policy; none: it is wrong -/
def lineF (first : Bool) (p : level_Policy) (u : List UInt8) : Option level_Policy :=
  if first = true then (if cutA 32 u = pauseW ∧ (tlW u).all (canB 18) = true then some ⟨(tlW u).map numOf, p.levels⟩ else none)
  else if cutA 32 u = levelW then (if (32 : UInt8) ∈ u ∧ cutB 32 u ≠ [] ∧ (32 : UInt8) ∉ cutB 32 u then some ⟨p.pauses, p.levels ++ [⟨tb (cutB 32 u), [], []⟩]⟩ else none)
  else match p.levels.getLast? with
    | none => none
    | some x =>
      if cutA 32 u = whenW ∧ (32 : UInt8) ∈ u then (match testF (cutB 32 u) with
        | none => none
        | some t => if x.targets = [] then some ⟨p.pauses, p.levels.dropLast ++ [{ x with tests := x.tests ++ [t] }]⟩ else none)
      else if 0 ≤ posW tgtL (cutA 32 u) ∧ (tlW u).all (canB 18) = true then (match tlW u with
        | [a, b] => some ⟨p.pauses, p.levels.dropLast ++ [{ x with targets := x.targets ++ [⟨posW tgtL (cutA 32 u) + 1, numOf a, numOf b⟩] }]⟩
        | _ => none)
      else none

structure Bnd (p : level_Policy) (n : Nat) : Prop where
  pauses : p.pauses.length ≤ 400001
  levels : p.levels.length ≤ n
  each : ∀ l ∈ p.levels, l.tests.length ≤ n ∧ l.targets.length ≤ n ∧ l.name.size ≤ 400000

theorem last_idx {L : List level_Level} {x : level_Level} (h : L.length ≤ 500000) : idx (L ++ [x]) (w64 (((L ++ [x]).length : Int) - 1)) = some x := by
  have : w64 (((L ++ [x]).length : Int) - 1) = (L.length : Int) := by
    rw [w64_id (by simp <;> omega) (by simp <;> omega)]; simp
  rw [this, idx_nat]
  simp
theorem last_set {L : List level_Level} {x y : level_Level} (h : L.length ≤ 500000) : setI (L ++ [x]) (w64 (((L ++ [x]).length : Int) - 1)) y = some (L ++ [y]) := by
  have : w64 (((L ++ [x]).length : Int) - 1) = (L.length : Int) := by
    rw [w64_id (by simp <;> omega) (by simp <;> omega)]; simp
  rw [this]
  unfold setI
  rw [if_pos (by simp <;> omega), Int.toNat_natCast, List.set_append_right _ _ (Nat.le_refl _)]
  simp

theorem lineF_bnd {first : Bool} {p q : level_Policy} {u : List UInt8} {n : Nat} (hu : u.length ≤ 400000) (hp : Bnd p n) (h : lineF first p u = some q) : Bnd q (n + 1) := by
  have hmono : ∀ l ∈ p.levels, l.tests.length ≤ n + 1 ∧ l.targets.length ≤ n + 1 ∧ l.name.size ≤ 400000 := fun l hl => by
    have := hp.each l hl
    omega
  have hpa := hp.pauses
  have hle := hp.levels
  unfold lineF at h
  split at h
  · split at h
    · cases h
      refine ⟨?_, by simp only; omega, hmono⟩
      have := tlW_len u
      simp only [List.length_map]
      omega
    · cases h
  · split at h
    · split at h
      · cases h
        refine ⟨hpa, by simp only [List.length_append, List.length_singleton]; omega, fun l hl => ?_⟩
        rcases List.mem_append.1 hl with hl | hl
        · exact hmono l hl
        · simp at hl
          subst hl
          have := cutB_len 32 u
          simp only [List.length_nil, tb_size]
          omega
      · cases h
    · split at h
      · cases h
      · rename_i x hx
        obtain ⟨L, hL⟩ : ∃ L, p.levels = L ++ [x] := List.getLast?_eq_some_iff.1 hx
        have hxl := hmono x (by rw [hL]; simp)
        have hxm := hp.each x (by rw [hL]; simp)
        have hsub : ∀ y : level_Level, (y.tests.length ≤ n + 1 ∧ y.targets.length ≤ n + 1 ∧ y.name.size ≤ 400000) → Bnd ⟨p.pauses, p.levels.dropLast ++ [y]⟩ (n + 1) := fun y hy => by
          rw [hL] at hle hmono ⊢
          refine ⟨hpa, ?_, fun l hl => ?_⟩
          · simp only [List.length_append, List.length_singleton, List.dropLast_concat] at hle ⊢
            omega
          · simp only [List.dropLast_concat] at hl
            rcases List.mem_append.1 hl with hl | hl
            · exact hmono l (by simp [hl])
            · simp at hl
              subst hl
              exact hy
        split at h
        · split at h
          · cases h
          · split at h
            · cases h
              exact hsub _ ⟨by simp only [List.length_append, List.length_singleton]; omega, hxl.2.1, hxl.2.2⟩
            · cases h
        · split at h
          · split at h
            · cases h
              exact hsub _ ⟨hxl.1, by simp only [List.length_append, List.length_singleton]; omega, hxl.2.2⟩
            · cases h
          · cases h

theorem split_tb (u : List UInt8) (hu : u.length ≤ 400000) : strings_Split (tb u) (⟨#[32]⟩ : ByteArray) = some (tb (cutA 32 u) :: (tlW u).map tb) := by
  have hs2 : strings_Split (tb u) (⟨#[32]⟩ : ByteArray) = _ := split_val 32 u (by omega)
  rw [hs2, spl_head]
  rfl
theorem slice_tl (w : ByteArray) (l : List ByteArray) : sliceL (w :: l) (some 1) none = some l := by
  unfold sliceL bounds
  simp only [Option.getD_some, Option.getD_none, List.length_cons]
  rw [if_pos (by omega)]
  simp [List.take_of_length_le]

set_option maxHeartbeats 1000000 in
theorem code_line (first : Bool) (p : level_Policy) (u : List UInt8) (hu : u.length ≤ 400000) (hp : Bnd p 400000) : ∃ q, level_Policy_line p (tb u) first = some ((lineF first p u).isSome, q) ∧ ∀ r, lineF first p u = some r → q = r := by
  unfold level_Policy_line
  have htl := tlW_len u
  have hsm : ∀ w ∈ tlW u, w.length ≤ 400000 := fun w hw => by have := tlW_small u w hw; omega
  have i0 : idx (tb (cutA 32 u) :: (tlW u).map tb) 0 = some (tb (cutA 32 u)) := rfl
  have hpw : strEq (tb (cutA 32 u)) (⟨#[112, 97, 117, 115, 101]⟩ : ByteArray) = decide (cutA 32 u = pauseW) := tb_eq _ pauseW
  have hlw : strEq (tb (cutA 32 u)) (⟨#[108, 101, 118, 101, 108]⟩ : ByteArray) = decide (cutA 32 u = levelW) := tb_eq _ levelW
  have hcn := code_nums (tlW u) hsm (by omega)
  rw [split_tb u hu, Option.bind_some, i0, Option.bind_some, hpw, hlw, slice_tl]
  simp only [Option.bind_some, hcn]
  clear hcn
  cases first with
  | true =>
    unfold lineF
    by_cases h1 : cutA 32 u = pauseW
    · simp only [h1, decide_true, beq_self_eq_true, Bool.not_true, Bool.false_eq_true, if_false, if_true, Option.bind_some, true_and]
      by_cases h2 : (tlW u).all (canB 18) = true
      · simp only [h2, if_true]
        exact ⟨_, rfl, fun r h => by cases h; rfl⟩
      · simp only [h2, Bool.false_eq_true, if_false]
        exact ⟨_, rfl, fun r h => by cases h⟩
    · simp only [h1, decide_false, show (true == false) = false from rfl, Bool.not_false, if_true, false_and, if_false]
      exact ⟨_, rfl, fun r h => by cases h⟩
  | false =>
    unfold lineF
    simp only [Bool.false_eq_true, if_false]
    by_cases h1 : cutA 32 u = pauseW
    · simp only [h1, decide_true, show (false == true) = false from rfl, Bool.not_false, if_true, show ¬ pauseW = levelW by decide, show ¬ pauseW = whenW by decide, false_and, if_false, show posW tgtL pauseW = -1 from rfl, show ¬ ((0 : Int) ≤ -1) by decide]
      refine ⟨p, ?_, fun r h => ?_⟩
      · cases p.levels.getLast? <;> rfl
      · exfalso; revert h; cases p.levels.getLast? <;> simp
    simp only [h1, decide_false, beq_self_eq_true, Bool.not_true, Bool.false_eq_true, if_false]
    by_cases h2 : cutA 32 u = levelW
    · simp only [h2, decide_true, if_true]
      rw [appendL, if_pos (by have := hp.levels; simp; omega), Option.bind_some]
      obtain ⟨w1, w2⟩ := pre_word levelW u (by decide)
      have ht := trimpre_val u (levelW ++ [32]) hu
      rw [show tb (levelW ++ [32]) = (⟨#[108, 101, 118, 101, 108, 32]⟩ : ByteArray) from rfl] at ht
      have hli := last_idx (L := p.levels) (x := ⟨ByteArray.empty, [], []⟩) (by have := hp.levels; omega)
      have hls := fun y => last_set (L := p.levels) (x := ⟨ByteArray.empty, [], []⟩) (y := y) (by have := hp.levels; omega)
      by_cases h3 : (32 : UInt8) ∈ u
      · rw [if_pos (w1.2 ⟨h2, h3⟩), w2 ⟨h2, h3⟩] at ht
        rw [ht, Option.bind_some, hli, Option.bind_some, hls, Option.bind_some]
        have htw : tlW u = spl 32 (cutB 32 u) := by rw [tlW, if_pos h3]
        have hnil : ∀ w : List UInt8, strEq (tb w) (⟨#[]⟩ : ByteArray) = decide (w = []) := fun w => tb_eq w []
        rw [htw]
        by_cases h4 : (32 : UInt8) ∈ cutB 32 u
        · rw [spl_cut, if_pos h4]
          have hne := spl_ne 32 (cutB 32 (cutB 32 u))
          have hlen : (((tb levelW :: (cutA 32 (cutB 32 u) :: spl 32 (cutB 32 (cutB 32 u))).map tb).length : Int) == 2) = false := by
            rw [beq_eq_false_iff_ne]
            have := List.length_pos_iff.2 hne
            simp
            omega
          rw [hlen, if_neg (by simp), Option.bind_some, if_neg (fun h => h.2.2 h4)]
          exact ⟨_, rfl, fun r h => by cases h⟩
        · rw [spl_cut, if_neg h4]
          have hlen : (((tb levelW :: ([cutB 32 u] : List (List UInt8)).map tb).length : Int) == 2) = true := rfl
          have i1 : idx (tb levelW :: ([cutB 32 u] : List (List UInt8)).map tb) 1 = some (tb (cutB 32 u)) := rfl
          rw [hlen, if_pos rfl, i1, Option.bind_some, Option.bind_some, hnil]
          by_cases h5 : cutB 32 u = []
          · rw [if_neg (fun h => h.2.1 h5), decide_eq_true h5]
            exact ⟨_, rfl, fun r h => by cases h⟩
          · rw [if_pos ⟨h3, h5, h4⟩, decide_eq_false h5]
            exact ⟨_, rfl, fun r h => by cases h; rfl⟩
      · rw [if_neg (fun h => h3 (w1.1 h).2)] at ht
        have htw : tlW u = [] := by rw [tlW, if_neg h3]
        rw [ht, Option.bind_some, hli, Option.bind_some, hls, Option.bind_some, htw]
        simp only [h3, false_and, if_false, show (((tb levelW :: List.map tb ([] : List (List UInt8))).length : Int) == 2) = false from rfl, Bool.false_eq_true, Option.bind_some]
        exact ⟨_, rfl, fun r h => by cases h⟩
    simp only [h2, decide_false, Bool.false_eq_true, if_false]
    rcases List.eq_nil_or_concat p.levels with hn | ⟨L, x, hL⟩
    · simp only [hn, List.length_nil, List.getLast?_nil]
      exact ⟨_, rfl, fun r h => by cases h⟩
    rw [List.concat_eq_append] at hL
    have hLl : L.length + 1 ≤ 400000 := by have := hp.levels; rw [hL] at this; simpa using this
    have hx := hp.each x (by rw [hL]; simp)
    have hne : (((L ++ [x]).length : Int) == 0) = false := by rw [beq_eq_false_iff_ne]; simp; omega
    simp only [hL, hne, Bool.false_eq_true, if_false, last_idx (show L.length ≤ 500000 by omega), last_set (show L.length ≤ 500000 by omega), Option.bind_some, List.getLast?_concat, List.dropLast_concat]
    obtain ⟨w1, w2⟩ := pre_word whenW u (by decide)
    have hcp := cutpre_val u (whenW ++ [32]) hu
    rw [show tb (whenW ++ [32]) = (⟨#[119, 104, 101, 110, 32]⟩ : ByteArray) from rfl] at hcp
    by_cases h3 : cutA 32 u = whenW ∧ (32 : UInt8) ∈ u
    · rw [if_pos (w1.2 h3), w2 h3] at hcp
      simp only [hcp, Option.bind_some, if_true, if_pos h3]
      obtain ⟨t, ht, hq⟩ := code_test (cutB 32 u) (by have := cutB_len 32 u; omega)
      rw [ht, Option.bind_some, appendL, if_pos (by simp; omega), Option.bind_some]
      dsimp only
      have hli2 := last_idx (L := L) (x := { x with tests := x.tests ++ [t] }) (by omega)
      have hlen : ((L ++ [x]).length : Int) = ((L ++ [{ x with tests := x.tests ++ [t] }]).length : Int) := by simp
      rw [hlen, hli2, Option.bind_some]
      cases htf : testF (cutB 32 u) with
      | none => exact ⟨_, rfl, fun r h => by cases h⟩
      | some t2 =>
        obtain rfl := hq t2 htf
        simp only [Option.isSome_some, Bool.true_and]
        by_cases h4 : x.targets = []
        · simp only [h4, List.length_nil, if_true]
          exact ⟨_, rfl, fun r h => by cases h; rfl⟩
        · have : ((x.targets.length : Int) == 0) = false := by
            rw [beq_eq_false_iff_ne]
            have := List.length_pos_iff.2 h4
            omega
          rw [this, if_neg h4]
          exact ⟨_, rfl, fun r h => by cases h⟩
    · rw [if_neg (fun h => h3 (w1.1 h))] at hcp
      simp only [hcp, Option.bind_some, Bool.false_eq_true, if_false, if_neg h3]
      have e3 := index_val tgtL (cutA 32 u)
      unfold level_targetWords
      rw [show ([(⟨#[102, 105, 114, 115, 116]⟩ : ByteArray), (⟨#[114, 101, 112, 108, 121]⟩ : ByteArray), (⟨#[115, 111, 108, 118, 101]⟩ : ByteArray)] : List ByteArray) = tgtL.map tb from rfl, Option.bind_some, e3, Option.bind_some]
      have hpb : posW tgtL (cutA 32 u) ≤ 3 := by
        unfold posW
        cases hf : tgtL.findIdx? (fun w => decide (cutA 32 u = w)) with
        | none => simp
        | some i =>
          have := (List.findIdx?_eq_some_iff_getElem.1 hf).1
          have : i < 3 := this
          simp only
          omega
      have hpb2 : -1 ≤ posW tgtL (cutA 32 u) := by
        unfold posW
        cases tgtL.findIdx? (fun w => decide (cutA 32 u = w)) with
        | none => simp
        | some i => simp only; omega
      generalize posW tgtL (cutA 32 u) = k at hpb hpb2
      by_cases h4 : 0 ≤ k
      rotate_left
      · simp only [decide_eq_true (show k < 0 by omega), h4, false_and, if_false, Bool.true_or, if_true]
        exact ⟨_, rfl, fun r h => by cases h⟩
      rw [decide_eq_false (show ¬ k < 0 by omega)]
      by_cases h5 : (tlW u).all (canB 18) = true
      rotate_left
      · simp only [h5, Bool.false_eq_true, if_false, and_false, Bool.not_false, Bool.or_true, Bool.true_or, if_true]
        exact ⟨_, rfl, fun r h => by cases h⟩
      simp only [h4, h5, and_self, if_true, Bool.not_true, Bool.or_self, Bool.false_or]
      match tlW u with
      | [] => exact ⟨_, rfl, fun r h => by cases h⟩
      | [a] => exact ⟨_, rfl, fun r h => by cases h⟩
      | [a, b] =>
        have j0 : idx (([a, b] : List (List UInt8)).map numOf) 0 = some (numOf a) := rfl
        have j1 : idx (([a, b] : List (List UInt8)).map numOf) 1 = some (numOf b) := rfl
        have hl2 : (((([a, b] : List (List UInt8)).map numOf).length : Int) != 2) = false := rfl
        simp only [hl2, Bool.false_eq_true, if_false, j0, j1, Option.bind_some]
        rw [appendL, if_pos (by simp; omega), Option.bind_some, w64_id (by omega) (by omega), Int.add_comm 1 k]
        exact ⟨_, rfl, fun r h => by cases h; rfl⟩
      | a :: b :: c :: d =>
        have hl2 : ((((a :: b :: c :: d).map numOf).length : Int) != 2) = true := by
          rw [bne_iff_ne]
          simp
          omega
        simp only [hl2, if_true]
        exact ⟨_, rfl, fun r h => by cases h⟩

abbrev noP : level_Policy := ⟨[], []⟩
/-- a round of the document's loop -/
def refBody (n : Nat) (k24 : Nat) (x59 : ByteArray) (s38 : level_Policy × level_Policy) : Option (Ctl (level_Policy × level_Policy) (level_Policy × Int × Int)) :=
  if (((strEq x59 (⟨#[]⟩ : ByteArray)) && ((k24 : Int) == (w64 ((n : Int) - 1)))) && (decide ((0 : Int) < (k24 : Int)))) = true then some (.bk (s38.1, s38.2)) else Option.bind (strings_CutSuffix x59 (⟨#[10]⟩ : ByteArray)) fun x78 => if (!x78.2) = true then Option.bind (portref2_ReadPolicyOf_1 (k24 : Int)) fun x80 => some (.rt (x80.1, x80.2.1, x80.2.2)) else if ((k24 : Int) == 0) = true then Option.bind (portref2_lineNumbers x78.1 18) fun x98 => if ((!(strEq x98.1 (⟨#[112, 97, 117, 115, 101]⟩ : ByteArray))) || (!x98.2.2)) = true then Option.bind (portref2_ReadPolicyOf_1 (k24 : Int)) fun x109 => some (.rt (x109.1, x109.2.1, x109.2.2)) else some (.nx ((⟨x98.2.1, s38.1.levels⟩ : level_Policy), s38.2)) else Option.bind (strings_CutPrefix x78.1 (⟨#[108, 101, 118, 101, 108, 32]⟩ : ByteArray)) fun x133 => if x133.2 = true then Option.bind (if (strEq x133.1 (⟨#[]⟩ : ByteArray)) = true then (some true) else (Option.bind (strings_Contains x133.1 (⟨#[32]⟩ : ByteArray)) fun x145 => some x145)) fun s136 => if s136 = true then Option.bind (portref2_ReadPolicyOf_1 (k24 : Int)) fun x151 => some (.rt (x151.1, x151.2.1, x151.2.2)) else Option.bind (appendL 2199023255552 s38.1.levels ([(⟨x133.1, ([] : (List level_Test)), ([] : (List level_Target))⟩ : level_Level)] : List level_Level)) fun x173 => some (.nx ((⟨s38.1.pauses, x173⟩ : level_Policy), s38.2)) else if ((s38.1.levels.length : Int) == 0) = true then Option.bind (portref2_ReadPolicyOf_1 (k24 : Int)) fun x187 => some (.rt (x187.1, x187.2.1, x187.2.2)) else Option.bind (idx s38.1.levels (w64 ((s38.1.levels.length : Int) - 1))) fun x204 => Option.bind (portref2_readTest x78.1) fun x209 => if x209.2 = true then if (decide ((0 : Int) < (x204.targets.length : Int))) = true then Option.bind (portref2_ReadPolicyOf_1 (k24 : Int)) fun x227 => some (.rt (x227.1, x227.2.1, x227.2.2)) else Option.bind (appendL 3518437208883 x204.tests ([x209.1] : List level_Test)) fun x263 => Option.bind (setI s38.1.levels (w64 ((s38.1.levels.length : Int) - 1)) ({ (x204 : level_Level) with tests := x263 })) fun x272 => some (.nx ((⟨s38.1.pauses, x272⟩ : level_Policy), s38.2)) else Option.bind (portref2_lineNumbers x78.1 18) fun x277 => Option.bind (slices_Index_Lstring_string portref2_targetWords x277.1) fun x288 => if (((!x277.2.2) || (decide (x288 < 1))) || ((x277.2.1.length : Int) != 2)) = true then Option.bind (portref2_ReadPolicyOf_1 (k24 : Int)) fun x294 => some (.rt (x294.1, x294.2.1, x294.2.2)) else Option.bind (idx x277.2.1 0) fun x319 => Option.bind (idx x277.2.1 1) fun x324 => Option.bind (appendL 5864062014805 x204.targets ([(⟨x288, x319, x324⟩ : level_Target)] : List level_Target)) fun x340 => Option.bind (setI s38.1.levels (w64 ((s38.1.levels.length : Int) - 1)) ({ (x204 : level_Level) with targets := x340 })) fun x349 => some (.nx ((⟨s38.1.pauses, x349⟩ : level_Policy), s38.2))
theorem contains_blank (l : List UInt8) : strings_Contains (tb l) (⟨#[32]⟩ : ByteArray) = some (decide ((32 : UInt8) ∈ l)) := by
  have h1 : (⟨#[32]⟩ : ByteArray).data.toList = [32] := rfl
  unfold strings_Contains
  rw [h1, tb_list]
  simp only [ib_cut]
  congr 1
  by_cases h : (32 : UInt8) ∈ l
  · rw [if_pos h, decide_eq_true h, decide_eq_true (by omega)]
  · rw [if_neg h, decide_eq_false h]
    rfl
theorem pos_tgt (w : List UInt8) : posW ([] :: tgtL) w = if 0 ≤ posW tgtL w then posW tgtL w + 1 else if w = [] then 0 else -1 := by
  by_cases h : w = []
  · subst h; rfl
  · unfold posW
    rw [List.findIdx?_cons, if_neg (by simpa using h), if_neg h]
    cases tgtL.findIdx? (fun v => decide (w = v)) with
    | none => rfl
    | some i => simp only [Option.map_some]; rw [if_pos (by omega)]; omega
set_option maxHeartbeats 1000000 in
theorem doc_body (n k : Nat) (hk : k ≤ 500000) (p z : level_Policy) (u : List UInt8) (hu : u.length ≤ 399999) (hp : Bnd p 400000) : refBody n k (tb (u ++ [10])) (p, z) = some (match lineF (decide (k = 0)) p u with | none => .rt (noP, ((k + 1 : Nat) : Int), 8) | some q => .nx (q, z)) := by
  unfold refBody
  have hnil : strEq (tb (u ++ [10])) (⟨#[]⟩ : ByteArray) = false := (tb_eq _ []).trans (decide_eq_false (by simp))
  have hw : w64 ((k : Int) + 1) = ((k + 1 : Nat) : Int) := by rw [w64_id (by omega) (by omega)]; rfl
  have hwr : portref2_ReadPolicyOf_1 (k : Int) = some (noP, ((k + 1 : Nat) : Int), 8) := by unfold portref2_ReadPolicyOf_1; rw [hw]
  rw [hnil, suffix_feed u (by omega)]
  simp only [Bool.false_and, Bool.false_eq_true, if_false, Option.bind_some, Bool.not_true, hwr]
  have hdl := doc_line u (by omega)
  have hnum : ∀ w : List UInt8, strEq (tb w) (⟨#[112, 97, 117, 115, 101]⟩ : ByteArray) = decide (w = pauseW) := fun w => tb_eq w pauseW
  by_cases hk0 : k = 0
  · subst hk0
    simp only [show (((0 : Nat) : Int) == 0) = true from rfl, decide_true, if_true, hdl, Option.bind_some]
    unfold lineF
    by_cases h2 : (tlW u).all (canB 18) = true
    · simp only [h2, if_true, hnum, and_true, Bool.not_true, Bool.or_false]
      by_cases h1 : cutA 32 u = pauseW
      · simp only [h1, decide_true, Bool.not_true, Bool.false_eq_true, if_false, if_true]
      · simp only [h1, decide_false, Bool.not_false, if_true, if_false]
    · simp only [h2, Bool.false_eq_true, if_false, hnum, and_false, Bool.not_false, Bool.or_true, if_true]
  have hk1 : ((k : Int) == 0) = false := by rw [beq_eq_false_iff_ne]; omega
  simp only [hk1, Bool.false_eq_true, if_false, hk0, decide_false]
  obtain ⟨w1, w2⟩ := pre_word levelW u (by decide)
  have hcp := cutpre_val u (levelW ++ [32]) (by omega)
  rw [show tb (levelW ++ [32]) = (⟨#[108, 101, 118, 101, 108, 32]⟩ : ByteArray) from rfl] at hcp
  have hix : ∀ w : List UInt8, slices_Index_Lstring_string portref2_targetWords (tb w) = some (posW ([] :: tgtL) w) := fun w => index_val ([] :: tgtL) w
  by_cases hl : cutA 32 u = levelW ∧ (32 : UInt8) ∈ u
  · rw [if_pos (w1.2 hl), w2 hl] at hcp
    have hnl : strEq (tb (cutB 32 u)) (⟨#[]⟩ : ByteArray) = decide (cutB 32 u = []) := tb_eq _ []
    simp only [hcp, Option.bind_some, if_true, hnl, contains_blank]
    unfold lineF
    simp only [Bool.false_eq_true, if_false, hl.1, if_true, hl.2, true_and]
    by_cases h5 : cutB 32 u = []
    · simp only [h5, decide_true, if_true, Option.bind_some, ne_eq, not_true_eq_false, false_and, if_false]
    · by_cases h4 : (32 : UInt8) ∈ cutB 32 u
      · simp only [h5, h4, decide_false, decide_true, Bool.false_eq_true, if_false, Option.bind_some, if_true, not_true_eq_false, and_false]
      · simp only [h5, h4, decide_false, Bool.false_eq_true, if_false, Option.bind_some, ne_eq, not_false_eq_true, and_self, if_true]
        rw [appendL, if_pos (by have := hp.levels; simp; omega), Option.bind_some]
  rw [if_neg (fun h => hl (w1.1 h))] at hcp
  simp only [hcp, Option.bind_some, Bool.false_eq_true, if_false]
  rcases List.eq_nil_or_concat p.levels with hn | ⟨L, x, hL⟩
  · have hln : lineF false p u = none := by
      unfold lineF
      simp only [Bool.false_eq_true, if_false, hn, List.getLast?_nil]
      split
      · rename_i h
        rw [if_neg (fun h2 => hl ⟨h, h2.1⟩)]
      · rfl
    simp only [hn, List.length_nil, hln, show (((0 : Nat) : Int) == 0) = true from rfl, if_true]
  rw [List.concat_eq_append] at hL
  have hLl : L.length + 1 ≤ 400000 := by have := hp.levels; rw [hL] at this; simpa using this
  have hx := hp.each x (by rw [hL]; simp)
  have hne : (((L ++ [x]).length : Int) == 0) = false := by rw [beq_eq_false_iff_ne]; simp; omega
  simp only [hL, hne, Bool.false_eq_true, if_false, last_idx (show L.length ≤ 500000 by omega), last_set (show L.length ≤ 500000 by omega), Option.bind_some]
  -- the numbers of a line that is no test
  have hno : ∀ w : List UInt8, ¬ 0 ≤ posW tgtL w → decide (posW ([] :: tgtL) w < 1) = true := fun w h => by
    rw [pos_tgt, if_neg h, decide_eq_true_eq]
    split <;> omega
  by_cases hw2 : cutA 32 u = whenW ∧ (32 : UInt8) ∈ u
  · have hj := cut_join 32 u hw2.2
    rw [hw2.1] at hj
    obtain ⟨t, ht, hq⟩ := doc_test (cutB 32 u) (by rw [← hj]; omega)
    rw [← hj] at ht
    have hlw : ¬ cutA 32 u = levelW := by rw [hw2.1]; decide
    unfold lineF
    simp only [ht, Option.bind_some, Bool.false_eq_true, if_false, hlw, hL, List.getLast?_concat, List.dropLast_concat, if_pos hw2]
    cases htf : testF (cutB 32 u) with
    | none =>
      simp only [Option.isSome_none, Bool.false_eq_true, if_false, hdl, Option.bind_some]
      by_cases h2 : (tlW u).all (canB 18) = true
      · simp only [h2, if_true, hix, Option.bind_some, hw2.1, hno whenW (by decide), Bool.not_true, Bool.false_or, Bool.true_or]
      · simp only [h2, Bool.false_eq_true, if_false, hix, Option.bind_some, Bool.not_false, Bool.true_or, if_true]
    | some t2 =>
      obtain rfl := hq t2 htf
      simp only [Option.isSome_some, if_true]
      by_cases h4 : x.targets = []
      · simp only [h4, List.length_nil, show decide ((0 : Int) < ((0 : Nat) : Int)) = false from rfl, Bool.false_eq_true, if_false, if_true]
        rw [appendL, if_pos (by simp; omega), Option.bind_some]
      · have : decide ((0 : Int) < (x.targets.length : Int)) = true := by
          have := List.length_pos_iff.2 h4
          rw [decide_eq_true_eq]
          omega
        simp only [this, if_true, h4, if_false]
  obtain ⟨t, ht⟩ := doc_other u (by omega) hw2
  unfold lineF
  simp only [ht, Option.bind_some, Bool.false_eq_true, if_false, hdl, hL, List.getLast?_concat, List.dropLast_concat, if_neg hw2]
  by_cases h2 : (tlW u).all (canB 18) = true
  rotate_left
  · simp only [h2, Bool.false_eq_true, if_false, hix, Option.bind_some, Bool.not_false, Bool.true_or, if_true, and_false]
    by_cases hlw : cutA 32 u = levelW
    · have h32 : ¬ (32 : UInt8) ∈ u := fun h => hl ⟨hlw, h⟩
      simp only [hlw, if_true, h32, false_and, if_false]
    · simp only [hlw, if_false]
  simp only [h2, if_true, hix, Option.bind_some, Bool.not_true, Bool.false_or, and_true]
  by_cases hlw : cutA 32 u = levelW
  · have h32 : ¬ (32 : UInt8) ∈ u := fun h => hl ⟨hlw, h⟩
    simp only [hlw, if_true, h32, false_and, if_false, hno levelW (by decide), Bool.true_or]
  simp only [hlw, if_false]
  by_cases h4 : 0 ≤ posW tgtL (cutA 32 u)
  rotate_left
  · simp only [hno _ h4, Bool.true_or, if_true, h4, if_false]
  rw [pos_tgt]
  simp only [h4, if_true]
  generalize posW tgtL (cutA 32 u) = kk at h4
  simp only [decide_eq_false (show ¬ kk + 1 < 1 by omega), Bool.false_or]
  match tlW u with
  | [] => rfl
  | [a] => rfl
  | [a, b] =>
    have j0 : idx (([a, b] : List (List UInt8)).map numOf) 0 = some (numOf a) := rfl
    have j1 : idx (([a, b] : List (List UInt8)).map numOf) 1 = some (numOf b) := rfl
    have hl2 : (((([a, b] : List (List UInt8)).map numOf).length : Int) != 2) = false := rfl
    simp only [hl2, Bool.false_eq_true, if_false, j0, j1, Option.bind_some]
    rw [appendL, if_pos (by simp; omega), Option.bind_some]
  | a :: b :: c :: d =>
    have hl2 : ((((a :: b :: c :: d).map numOf).length : Int) != 2) = true := by
      rw [bne_iff_ne]
      simp
      omega
    simp only [hl2, if_true]
/-- what the lines make -/
def goL (t : List UInt8) : List (List UInt8) → Nat → level_Policy → Sum Nat level_Policy
  | [], k, p => if t = [] ∧ k ≠ 0 then .inr p else .inl (k + 1)
  | u :: us, k, p => match lineF (decide (k = 0)) p u with
    | none => .inl (k + 1)
    | some q => goL t us (k + 1) q
theorem goL_bnd (t : List UInt8) : ∀ (us : List (List UInt8)) (k : Nat) (p r : level_Policy), (∀ u ∈ us, u.length ≤ 400000) → Bnd p k → goL t us k p = .inr r → Bnd r (k + us.length)
  | [], k, p, r, _, hp, h => by
    rw [goL] at h
    split at h
    · cases h; exact hp
    · cases h
  | u :: us, k, p, r, hu, hp, h => by
    rw [goL] at h
    split at h
    · cases h
    · rename_i q hq
      have := goL_bnd t us (k + 1) q r (fun x hx => hu x (List.mem_cons_of_mem _ hx)) (lineF_bnd (hu u List.mem_cons_self) hp hq) h
      rw [List.length_cons, show k + (us.length + 1) = k + 1 + us.length by omega]
      exact this
theorem Bnd.up {p : level_Policy} {n m : Nat} (h : Bnd p n) (hm : n ≤ m) : Bnd p m := ⟨h.pauses, Nat.le_trans h.levels hm, fun l hl => by have := h.each l hl; omega⟩

theorem code_loop (t : List UInt8) (ht : noFeed t) (z : level_Policy) : ∀ (us : List (List UInt8)) (k : Nat) (p : level_Policy), (∀ u ∈ us, noFeed u) → (flt us t).length + k ≤ 400000 → Bnd p k →
    ∃ q : ByteArray × Int, whileB (R := level_Policy × Int × Int) (fun s32 : ByteArray × Int × level_Policy × level_Policy => if ((!(strEq s32.1 (⟨#[]⟩ : ByteArray))) || (s32.2.1 == 1)) = true then Option.bind (strings_Cut s32.1 (⟨#[10]⟩ : ByteArray)) fun x54 => Option.bind (level_Policy_line s32.2.2.1 x54.1 (s32.2.1 == 1)) fun x58 => if ((!x58.1) || (!x54.2.2)) = true then some (.rt ((⟨([] : (List Int)), ([] : (List level_Level))⟩ : level_Policy), s32.2.1, 8)) else some (.nx (x54.2.1, w64 (s32.2.1 + 1), x58.2, s32.2.2.2)) else some (.bk (s32.1, s32.2.1, s32.2.2.1, s32.2.2.2))) (tb (flt us t), ((k + 1 : Nat) : Int), p, z)
      = some (match goL t us k p with | .inl m => .rt (noP, (m : Int), 8) | .inr r => .fin (q.1, q.2, r, z))
  | [], k, p, _, hl, hp => by
    have hf : flt [] t = t := rfl
    rw [hf] at hl ⊢
    rw [whileB_eq]
    have e0 : strEq (tb t) (⟨#[]⟩ : ByteArray) = decide (t = []) := tb_eq t []
    have e1 : ((((k + 1 : Nat) : Int)) == 1) = decide (k = 0) := by rw [Bool.eq_iff_iff, beq_iff_eq, decide_eq_true_eq]; omega
    simp only [e0, e1, goL]
    by_cases h : t = [] ∧ k ≠ 0
    · have hc : ((!decide (t = [])) || decide (k = 0)) = false := by rw [decide_eq_true h.1, decide_eq_false h.2]; rfl
      refine ⟨(tb t, ((k + 1 : Nat) : Int)), ?_⟩
      rw [hc, if_neg Bool.false_ne_true, if_pos h]
      rfl
    · refine ⟨(tb [], 0), ?_⟩
      have hcut : strings_Cut (tb t) (⟨#[10]⟩ : ByteArray) = some (tb (cutA 10 t), tb (cutB 10 t), decide (10 ∈ t)) := cut_val 10 t (by omega)
      have hno : (10 : UInt8) ∉ t := fun h => ht 10 h rfl
      obtain ⟨q, hq, _⟩ := code_line (decide (k = 0)) p (cutA 10 t) (by have := cutA_len 10 t; omega) (hp.up (by omega))
      have hc : ((!decide (t = [])) || decide (k = 0)) = true := by
        by_cases h1 : t = []
        · have : k = 0 := Decidable.byContradiction fun h2 => h ⟨h1, h2⟩
          simp [this]
        · simp [h1]
      rw [if_neg h, if_pos hc, hcut, Option.bind_some, hq, Option.bind_some, decide_eq_false hno, if_pos (by simp)]
      rfl
  | u :: us, k, p, hu, hl, hp => by
    have hf : flt (u :: us) t = u ++ 10 :: flt us t := by simp [flt]
    rw [hf, List.length_append, List.length_cons] at hl
    rw [hf, whileB_eq]
    have e0 : strEq (tb (u ++ 10 :: flt us t)) (⟨#[]⟩ : ByteArray) = decide (u ++ 10 :: flt us t = []) := tb_eq _ []
    have e1 : ((((k + 1 : Nat) : Int)) == 1) = decide (k = 0) := by rw [Bool.eq_iff_iff, beq_iff_eq, decide_eq_true_eq]; omega
    have hcut : strings_Cut (tb (u ++ 10 :: flt us t)) (⟨#[10]⟩ : ByteArray) = some (tb (cutA 10 (u ++ 10 :: flt us t)), tb (cutB 10 (u ++ 10 :: flt us t)), decide (10 ∈ u ++ 10 :: flt us t)) := cut_val 10 _ (by rw [List.length_append, List.length_cons]; omega)
    have hno : (10 : UInt8) ∉ u := fun h => hu u List.mem_cons_self 10 h rfl
    obtain ⟨c1, c2⟩ := cut_at 10 u (flt us t) hno
    have hw : w64 (((k + 1 : Nat) : Int) + 1) = ((k + 1 + 1 : Nat) : Int) := by rw [w64_id (by omega) (by omega)]; rfl
    rw [c1, c2, decide_eq_true (by simp)] at hcut
    obtain ⟨q, hq, hqr⟩ := code_line (decide (k = 0)) p u (by omega) (hp.up (by omega))
    simp only [e0, e1]
    rw [if_pos (by simp), hcut, Option.bind_some, hq, Option.bind_some, goL]
    cases hr : lineF (decide (k = 0)) p u with
    | none =>
      refine ⟨(tb [], 0), ?_⟩
      rw [if_pos (by simp)]
      rfl
    | some r =>
      obtain rfl := hqr r hr
      simp only [Option.isSome_some, Bool.not_true, Bool.or_self, Bool.false_eq_true, if_false]
      rw [Option.bind_some, hw]
      exact code_loop t ht z us (k + 1) q (fun x hx => hu x (List.mem_cons_of_mem _ hx)) (by omega) (lineF_bnd (by omega) hp hr)
theorem ref_loop (n : Nat) (hn : n ≤ 500000) (t : List UInt8) (ht : noFeed t) (z : level_Policy) : ∀ (us : List (List UInt8)) (k : Nat) (p : level_Policy), k + us.length + 1 = n → (∀ u ∈ us, noFeed u) → (flt us t).length + k ≤ 400000 → Bnd p k →
    forL (R := level_Policy × Int × Int) (refBody n) (us.map (fun u => tb (u ++ [10])) ++ [tb t]) k (p, z) = some (match goL t us k p with | .inl m => .rt (noP, (m : Int), 8) | .inr r => .fin (r, z))
  | [], k, p, hk, _, hl, hp => by
    have hf : flt [] t = t := rfl
    rw [hf] at hl
    simp only [List.length_nil, Nat.add_zero] at hk
    simp only [List.map_nil, List.nil_append, goL]
    rw [forL]
    unfold refBody
    have e0 : strEq (tb t) (⟨#[]⟩ : ByteArray) = decide (t = []) := tb_eq t []
    have ek : ((k : Int) == (w64 ((n : Int) - 1))) = true := by rw [w64_id (by omega) (by omega), beq_iff_eq]; omega
    have hw : w64 ((k : Int) + 1) = ((k + 1 : Nat) : Int) := by rw [w64_id (by omega) (by omega)]; rfl
    have hwr : portref2_ReadPolicyOf_1 (k : Int) = some (noP, ((k + 1 : Nat) : Int), 8) := by unfold portref2_ReadPolicyOf_1; rw [hw]
    have e2 : decide ((0 : Int) < (k : Int)) = decide (k ≠ 0) := by rw [Bool.eq_iff_iff, decide_eq_true_eq, decide_eq_true_eq]; omega
    rw [e0, ek, Bool.and_true, e2, suffix_none t (by omega) ht]
    by_cases h : t = [] ∧ k ≠ 0
    · rw [if_pos (by simp [h.1, h.2]), if_pos h]
    · have : ¬ (decide (t = []) && decide (k ≠ 0)) = true := by simpa using h
      rw [if_neg this, if_neg h]
      simp only [Option.bind_some, Bool.not_false, if_true, hwr]
  | u :: us, k, p, hk, hu, hl, hp => by
    have hf : flt (u :: us) t = u ++ 10 :: flt us t := by simp [flt]
    rw [hf, List.length_append, List.length_cons] at hl
    rw [List.map_cons, List.cons_append, forL, doc_body n k (by omega) p z u (by omega) (hp.up (by omega)), goL]
    cases hr : lineF (decide (k = 0)) p u with
    | none => rfl
    | some q =>
      simp only
      exact ref_loop n hn t ht z us (k + 1) q (by simp only [List.length_cons] at hk; omega) (fun x hx => hu x (List.mem_cons_of_mem _ hx)) (by omega) (lineF_bnd (by omega) hp hr)

theorem read_eq (s : ByteArray) : ∃ r, level_ReadPolicy s = some r ∧ portref2_ReadPolicyOf s = some r := by
  unfold level_ReadPolicy portref2_ReadPolicyOf
  by_cases hs : s.size ≤ 400000
  rotate_left
  · rw [if_pos (by simp; omega), if_pos (by simp; omega)]
    exact ⟨_, rfl, rfl⟩
  rw [if_neg (by simp; omega), if_neg (by simp; omega)]
  have hl : s.data.toList.length ≤ 400000 := hs
  rw [← tb_of s]
  generalize s.data.toList = l at hl
  obtain ⟨ls, t, h1, h2, h3, h4⟩ := cut_spec l
  obtain ⟨us, rfl, hus⟩ : ∃ us : List (List UInt8), ls = us.map (· ++ [10]) ∧ ∀ u ∈ us, noFeed u := by
    clear h1 h4
    induction ls with
    | nil => exact ⟨[], rfl, by simp⟩
    | cons x ls ih =>
      obtain ⟨us, e, hus⟩ := ih fun y hy => h3 y (List.mem_cons_of_mem _ hy)
      obtain ⟨u, hu, rfl⟩ := h3 x List.mem_cons_self
      refine ⟨u :: us, by rw [e]; rfl, fun y hy => ?_⟩
      rcases List.mem_cons.1 hy with rfl | hy
      · exact hu
      · exact hus y hy
  have hfl : l = flt us t := h4.symm
  have hsa : strings_SplitAfter (tb l) (⟨#[10]⟩ : ByteArray) = _ := after_val l (by omega)
  rw [hsa, h1, Option.bind_some]
  have hfn : ∀ us : List (List UInt8), us.length ≤ ((us.map (· ++ [10])).flatten).length ∧ ∀ u ∈ us, u.length ≤ ((us.map (· ++ [10])).flatten).length := by
    intro us
    induction us with
    | nil => simp
    | cons u us ih =>
      simp only [List.map_cons, List.flatten_cons, List.length_append, List.length_cons]
      refine ⟨by omega, fun x hx => ?_⟩
      rcases List.mem_cons.1 hx with rfl | hx
      · omega
      · have := ih.2 x hx; omega
  have hul : us.length + t.length ≤ l.length := by
    rw [hfl]
    unfold flt
    rw [List.length_append]
    have := (hfn us).1
    omega
  have hul2 : ∀ u ∈ us, u.length ≤ 400000 := by
    intro u hu
    have h5 := (hfn us).2 u hu
    have h6 := congrArg List.length hfl
    unfold flt at h6
    rw [List.length_append] at h6
    omega
  have hb0 : Bnd noP 0 := ⟨by simp, by simp, by simp⟩
  obtain ⟨q, hcode⟩ := code_loop t h2 noP us 0 noP hus (by rw [← hfl]; omega) hb0
  rw [← hfl] at hcode
  have hcode' := hcode
  rw [show (((0 + 1 : Nat) : Int)) = 1 from rfl] at hcode'
  rw [hcode', Option.bind_some]
  have hmap : (us.map (· ++ [10]) ++ [t]).map tb = us.map (fun u => tb (u ++ [10])) ++ [tb t] := by simp
  rw [hmap]
  generalize hP : us.map (fun u => tb (u ++ [10])) ++ [tb t] = P
  have hPl : P.length = us.length + 1 := by rw [← hP]; simp
  rw [rangeB_forL (R := level_Policy × Int × Int) P (refBody P.length) _ (fun k s x hx => by rw [idx_nat, hx]; rfl)]
  rw [hPl, ← hP, ref_loop (us.length + 1) (by omega) t h2 noP us 0 noP (by omega) hus (by rw [← hfl]; omega) hb0, Option.bind_some]
  cases hg : goL t us 0 noP with
  | inl m => exact ⟨_, rfl, rfl⟩
  | inr r =>
    simp only [Lp.andThen_fin]
    have hb := goL_bnd t us 0 noP r hul2 hb0 hg
    obtain ⟨e, a1, b1, _⟩ := policy_eq r (fun l hl => by have := hb.each l hl; omega) (by have := hb.pauses; omega)
    rw [a1, b1, Option.bind_some]
    split <;> exact ⟨_, rfl, rfl⟩

theorem equal_of {α : Type} (l : List α) (eq : α → α → Option Bool) (h : ∀ x, eq x x = some true) : ∃ t, rangeB (R := Bool) (fun k9 (_ : Unit) => Option.bind (idx l (k9 : Int)) fun x29 => Option.bind (idx l (k9 : Int)) fun x47 => Option.bind (eq x29 x47) fun x71 => if (!x71) = true then some (.rt false) else some (.nx ())) l.length 0 () = some (.fin t) := by
  obtain ⟨t, h1, _⟩ := rangeB_inv (R := Bool) (b := fun k9 (_ : Unit) => Option.bind (idx l (k9 : Int)) fun x29 => Option.bind (idx l (k9 : Int)) fun x47 => Option.bind (eq x29 x47) fun x71 => if (!x71) = true then some (.rt false) else some (.nx ())) l.length (fun _ _ => True) (s := ()) trivial
    (fun k s hk _ => by rw [idx_lt _ _ hk]; simp [h])
  exact ⟨t, h1⟩
theorem str_self (b : ByteArray) : strEq b b = true := by unfold strEq; simp
theorem alike_self (p : level_Policy) : portref2_Alike p p = some true := by
  have h1 : slices_Equal_Lint_int p.pauses p.pauses = some true := by
    unfold slices_Equal_Lint_int
    simp only [bne_self_eq_false, Bool.false_eq_true, if_false]
    obtain ⟨t, h⟩ := equal_of p.pauses (fun x y => some (!(x != y))) (by simp)
    simp only [Option.bind_some, Bool.not_not] at h
    rw [h]
    rfl
  have h2 : ∀ l : List level_Test, slices_Equal_Llevel_Test_level_Test l l = some true := fun l => by
    unfold slices_Equal_Llevel_Test_level_Test
    simp only [bne_self_eq_false, Bool.false_eq_true, if_false]
    obtain ⟨t, h⟩ := equal_of l (fun x29 x34 => some (x29.field == x34.field && (x29.value.kind == x34.value.kind && (x29.value.int == x34.value.int && (strEq x29.value.text x34.value.text))))) (by simp [str_self])
    simp only [Option.bind_some] at h
    rw [h]
    rfl
  have h3 : ∀ l : List level_Target, slices_Equal_Llevel_Target_level_Target l l = some true := fun l => by
    unfold slices_Equal_Llevel_Target_level_Target
    simp only [bne_self_eq_false, Bool.false_eq_true, if_false]
    obtain ⟨t, h⟩ := equal_of l (fun x29 x34 => some (x29.kind == x34.kind && (x29.minutes == x34.minutes && (x29.calendar == x34.calendar)))) (by simp)
    simp only [Option.bind_some] at h
    rw [h]
    rfl
  have h4 : slices_EqualFunc_Llevel_Level_Llevel_Level_level_Level_level_Level p.levels p.levels (fun y67 y68 => portref2_Alike_8 y67 y68) = some true := by
    unfold slices_EqualFunc_Llevel_Level_Llevel_Level_level_Level_level_Level
    simp only [bne_self_eq_false, Bool.false_eq_true, if_false]
    obtain ⟨t, h⟩ := equal_of p.levels (fun y67 y68 => portref2_Alike_8 y67 y68) (fun x => by unfold portref2_Alike_8; simp [str_self, h2, h3])
    rw [h]
    rfl
  unfold portref2_Alike
  simp [h1, h4]
theorem reads_true (s : ByteArray) : portlaw2_LevelReads s = some true := by
  obtain ⟨r, h1, h2⟩ := read_eq s
  unfold portlaw2_LevelReads
  rw [h1, h2]
  simp [alike_self]
end Go.Proofs.YtcbebdcofipcpaaGreatDoor.M
