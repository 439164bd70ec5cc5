/-
  A line of a policy, by the code and by the document: plain part.
-/
import Derived.Test.YtcbebdcofipcpaaGreatDoorLevelReadsLineBase
import Derived.Test.YtcbebdcofipcpaaGreatDoorLevelReadsLvlNumber
namespace Go.Proofs.YtcbebdcofipcpaaGreatDoor.M
open Go Go.Pu
set_option linter.unusedSimpArgs false
set_option linter.unusedVariables false

theorem spl_cut (c : UInt8) : ∀ l, spl c l = if c ∈ l then cutA c l :: spl c (cutB c l) else [l]
  | [] => rfl
  | b :: l => by
    rw [spl]
    by_cases hb : b = c
    · subst hb
      rw [if_pos rfl, if_pos List.mem_cons_self, cutA, cutB, if_pos rfl, if_pos rfl]
    · rw [if_neg hb, spl_cut c l]
      by_cases hc : c ∈ l
      · rw [if_pos hc, if_pos (List.mem_cons_of_mem _ hc), cutA, cutB, if_neg hb, if_neg hb]
      · rw [if_neg hc, if_neg (fun h => (List.mem_cons.1 h).elim (fun e => hb e.symm) hc)]
/-- the words behind the first one -/
def tlW (u : List UInt8) : List (List UInt8) := if (32 : UInt8) ∈ u then spl 32 (cutB 32 u) else []
theorem spl_head (u : List UInt8) : spl 32 u = cutA 32 u :: tlW u := by
  rw [spl_cut, tlW]
  by_cases h : (32 : UInt8) ∈ u
  · rw [if_pos h, if_pos h]
  · rw [if_neg h, if_neg h, (cut_none 32 u h).1]
theorem tlW_small (u : List UInt8) : ∀ x ∈ tlW u, x.length ≤ u.length := fun x hx => spl_small 32 u x (by rw [spl_head]; exact List.mem_cons_of_mem _ hx)
theorem tlW_len (u : List UInt8) : (tlW u).length ≤ u.length := by
  have := spl_len 32 u
  rw [spl_head, List.length_cons] at this
  omega
theorem has_pre (s p : List UInt8) (hs : s.length ≤ 400000) : internal_stringslite_HasPrefix (tb s) (tb p) = some (decide (p = s.take p.length)) := by
  unfold internal_stringslite_HasPrefix
  rw [tb_size, tb_size]
  by_cases h : p.length ≤ s.length
  · rw [if_pos (by simpa using h), tb_sliceH _ _ h, Option.bind_some, tb_eq, Option.bind_some]
    congr 2
    exact propext eq_comm
  · rw [if_neg (by simpa using h), Option.bind_some]
    congr 1
    symm
    rw [decide_eq_false_iff_not]
    intro he
    have := congrArg List.length he
    rw [List.length_take] at this
    omega
/-- a word and a blank ahead -/
theorem pre_word (w u : List UInt8) (hw : (32 : UInt8) ∉ w) : (w ++ [32] = u.take (w ++ [32]).length ↔ cutA 32 u = w ∧ (32 : UInt8) ∈ u) ∧ (cutA 32 u = w ∧ (32 : UInt8) ∈ u → u.drop (w ++ [32]).length = cutB 32 u) := by
  refine ⟨⟨fun h => ?_, fun ⟨h1, h2⟩ => ?_⟩, fun ⟨h1, h2⟩ => ?_⟩
  · have e : u = w ++ 32 :: u.drop (w ++ [32]).length := by
      conv => lhs; rw [← List.take_append_drop (w ++ [32]).length u]
      rw [← h]
      simp
    refine ⟨?_, by rw [e]; simp⟩
    rw [e]
    exact (cut_at 32 w _ hw).1
  · have e := cut_join 32 u h2
    rw [h1] at e
    rw [e, show w ++ 32 :: cutB 32 u = (w ++ [32]) ++ cutB 32 u by simp, List.take_left]
  · have e := cut_join 32 u h2
    rw [h1] at e
    conv => lhs; rw [e, show w ++ 32 :: cutB 32 u = (w ++ [32]) ++ cutB 32 u by simp]
    rw [List.drop_left]
theorem cutpre_val (s p : List UInt8) (hs : s.length ≤ 400000) : strings_CutPrefix (tb s) (tb p) = some (if p = s.take p.length then (tb (s.drop p.length), true) else (tb s, false)) := by
  unfold strings_CutPrefix internal_stringslite_CutPrefix
  rw [has_pre _ _ hs, Option.bind_some]
  by_cases h : p = s.take p.length
  · have hl : p.length ≤ s.length := by
      have := congrArg List.length h
      rw [List.length_take] at this
      omega
    rw [decide_eq_true h, if_neg (by simp), tb_size, tb_sliceL _ _ hl, if_pos h]
    rfl
  · rw [decide_eq_false h, if_pos (by simp), if_neg h]
    rfl
theorem trimpre_val (s p : List UInt8) (hs : s.length ≤ 400000) : strings_TrimPrefix (tb s) (tb p) = some (if p = s.take p.length then tb (s.drop p.length) else tb s) := by
  unfold strings_TrimPrefix internal_stringslite_TrimPrefix
  rw [has_pre _ _ hs, Option.bind_some]
  by_cases h : p = s.take p.length
  · have hl : p.length ≤ s.length := by
      have := congrArg List.length h
      rw [List.length_take] at this
      omega
    rw [decide_eq_true h, if_pos rfl, tb_size, tb_sliceL _ _ hl, if_pos h]
    rfl
  · rw [decide_eq_false h, if_neg (by simp), if_neg h]
    rfl
theorem code_num (l : List UInt8) (hl : l.length ≤ 400000) : level_number (tb l) 18 = some (if canB 18 l = true then (numOf l, true) else (0, false)) := num_code l (by omega) 18 (by omega)
theorem doc_num (l : List UInt8) (hl : l.length ≤ 400000) : portref2_number (tb l) 18 = some (if canB 18 l = true then (numOf l, true) else (0, false)) := num_ref l (by omega) 18 (by omega)
theorem map_idx (ws : List (List UInt8)) (k : Nat) : idx (ws.map tb) (k : Int) = (ws[k]?).map tb := by rw [idx_nat, List.getElem?_map]

theorem nums_loop {β : Type} (ws : List (List UInt8)) (hw : ∀ w ∈ ws, w.length ≤ 400000) (hn : ws.length ≤ 400001) (num : ByteArray → Option (Int × Bool)) (hnum : ∀ l : List UInt8, l.length ≤ 400000 → num (tb l) = some (if canB 18 l = true then (numOf l, true) else (0, false))) (z : β) :
    rangeB (fun k6 s14 => Option.bind (idx (ws.map tb) (k6 : Int)) fun x29 => Option.bind (num x29) fun x33 => if (!x33.2) = true then some (.rt z) else Option.bind (appendL 17592186044416 s14 ([x33.1] : List Int)) fun x43 => some (.nx x43)) (ws.map tb).length 0 ([] : List Int) = some (if ws.all (canB 18) = true then .fin (ws.map numOf) else .rt z) := by
  rw [rangeB_forL (ws.map tb) (fun _ x29 s14 => Option.bind (num x29) fun x33 => if (!x33.2) = true then some (.rt z) else Option.bind (appendL 17592186044416 s14 ([x33.1] : List Int)) fun x43 => some (.nx x43)) _ (fun k s x hx => by rw [idx_nat, hx]; rfl)]
  suffices h : ∀ (ws : List (List UInt8)) (k : Nat) (acc : List Int), (∀ w ∈ ws, w.length ≤ 400000) → acc.length + ws.length ≤ 400001 → forL (fun _ x29 s14 => Option.bind (num x29) fun x33 => if (!x33.2) = true then some (.rt z) else Option.bind (appendL 17592186044416 s14 ([x33.1] : List Int)) fun x43 => some (.nx x43)) (ws.map tb) k acc = some (if ws.all (canB 18) = true then .fin (acc ++ ws.map numOf) else .rt z) by
    have := h ws 0 [] hw (by simpa using hn)
    simpa using this
  intro ws
  induction ws with
  | nil => intro k acc _ _; simp [forL]
  | cons w ws ih =>
    intro k acc hw hn
    rw [List.map_cons, forL, hnum w (hw w List.mem_cons_self), Option.bind_some]
    simp only [List.length_cons] at hn
    cases hc : canB 18 w with
    | false => simp [hc]
    | true =>
      rw [if_pos rfl, if_neg (by simp), appendL, if_pos (by simp; omega), Option.bind_some]
      simp only
      rw [ih (k + 1) (acc ++ [numOf w]) (fun x hx => hw x (List.mem_cons_of_mem _ hx)) (by simp; omega)]
      simp [hc]
theorem code_nums (ws : List (List UInt8)) (hw : ∀ w ∈ ws, w.length ≤ 400000) (hn : ws.length ≤ 400001) : level_numbers (ws.map tb) 18 = some (if ws.all (canB 18) = true then (ws.map numOf, true) else ([], false)) := by
  unfold level_numbers
  rw [nums_loop ws hw hn (fun x => level_number x 18) code_num, Option.bind_some]
  split <;> rfl
theorem doc_line (u : List UInt8) (hu : u.length ≤ 400000) : portref2_lineNumbers (tb u) 18 = some (if (tlW u).all (canB 18) = true then (tb (cutA 32 u), (tlW u).map numOf, true) else (tb [], [], false)) := by
  unfold portref2_lineNumbers
  have hs2 : strings_Split (tb u) (⟨#[32]⟩ : ByteArray) = _ := split_val 32 u (by omega)
  rw [hs2, Option.bind_some, spl_head, List.map_cons]
  have hsl : sliceL (tb (cutA 32 u) :: (tlW u).map tb) (some 1) none = some ((tlW u).map tb) := by
    unfold sliceL bounds
    simp only [Option.getD_some, Option.getD_none, List.length_cons]
    rw [if_pos (by omega)]
    simp [List.take_of_length_le]
  rw [hsl, Option.bind_some]
  have hl := tlW_len u
  rw [nums_loop (tlW u) (fun w hw => by have := tlW_small u w hw; omega) (by omega) (fun x => portref2_number x 18) doc_num, Option.bind_some]
  split
  · rfl
  · rfl

/-- the position of a word -/
def posW (ws : List (List UInt8)) (u : List UInt8) : Int := match ws.findIdx? (fun w => decide (u = w)) with | some i => (i : Int) | none => -1
theorem index_val (ws : List (List UInt8)) (u : List UInt8) : slices_Index_Lstring_string (ws.map tb) (tb u) = some (posW ws u) := by
  unfold slices_Index_Lstring_string
  have hr := rangeB_index (ws.map tb) (fun x => strEq (tb u) x)
  have hb : rangeB (fun k6 (_ : Unit) => Option.bind (idx (ws.map tb) (k6 : Int)) fun x21 => if (strEq (tb u) x21) = true then some (Ctl.rt (S := Unit) (k6 : Int)) else some (.nx ())) (ws.map tb).length 0 () = _ := hr
  rw [hb]
  have : (ws.map tb).findIdx? (fun x => strEq (tb u) x) = ws.findIdx? (fun w => decide (u = w)) := by
    rw [List.findIdx?_map]
    congr 1
    funext w
    exact tb_eq u w
  rw [this]
  unfold posW
  cases ws.findIdx? (fun w => decide (u = w)) <;> rfl
def kindL : List (List UInt8) := [[110, 105, 108], [102, 108, 97, 103], [110, 117, 109, 98, 101, 114], [116, 101, 120, 116], [99, 104, 111, 105, 99, 101], [109, 111, 109, 101, 110, 116], [112, 101, 114, 115, 111, 110]]
def tgtL : List (List UInt8) := [[102, 105, 114, 115, 116], [114, 101, 112, 108, 121], [115, 111, 108, 118, 101]]
abbrev pauseW : List UInt8 := [112, 97, 117, 115, 101]
abbrev levelW : List UInt8 := [108, 101, 118, 101, 108]
abbrev whenW : List UInt8 := [119, 104, 101, 110]

/-- what is behind the word of a test -/
def testG (f q v : List UInt8) (k : Int) : Option level_Test :=
  if canB 18 f = true ∧ 0 ≤ k then
    if k = 0 then (if (32 : UInt8) ∈ q then none else some ⟨numOf f, ⟨k, 0, ByteArray.empty⟩⟩)
    else if k = 3 then (if (32 : UInt8) ∈ q then some ⟨numOf f, ⟨k, 0, tb v⟩⟩ else none)
    else if (32 : UInt8) ∈ q ∧ canB 18 v = true then some ⟨numOf f, ⟨k, numOf v, ByteArray.empty⟩⟩ else none
  else none
def testF (r : List UInt8) : Option level_Test := testG (cutA 32 r) (cutB 32 r) (cutB 32 (cutB 32 r)) (posW kindL (cutA 32 (cutB 32 r)))
theorem code_test (r : List UInt8) (hr : r.length ≤ 400000) : ∃ t, level_readTest (tb r) = some (t, (testF r).isSome) ∧ ∀ q, testF r = some q → t = q := by
  unfold level_readTest testF level_kindWords
  have hq := cutB_len 32 r
  have hf := cutA_len 32 r
  have hv := cutB_len 32 (cutB 32 r)
  have e1 : strings_Cut (tb r) (⟨#[32]⟩ : ByteArray) = _ := cut_val 32 r (by omega)
  have e2 : strings_Cut (tb (cutB 32 r)) (⟨#[32]⟩ : ByteArray) = _ := cut_val 32 (cutB 32 r) (by omega)
  have e3 := index_val kindL (cutA 32 (cutB 32 r))
  rw [e1, Option.bind_some, e2, Option.bind_some, Option.bind_some]
  rw [show ([(⟨#[110, 105, 108]⟩ : ByteArray), (⟨#[102, 108, 97, 103]⟩ : ByteArray), (⟨#[110, 117, 109, 98, 101, 114]⟩ : ByteArray), (⟨#[116, 101, 120, 116]⟩ : ByteArray), (⟨#[99, 104, 111, 105, 99, 101]⟩ : ByteArray), (⟨#[109, 111, 109, 101, 110, 116]⟩ : ByteArray), (⟨#[112, 101, 114, 115, 111, 110]⟩ : ByteArray)] : List ByteArray) = kindL.map tb from rfl]
  simp only [e3, Option.bind_some]
  rw [code_num _ (by omega), Option.bind_some, code_num _ (by omega)]
  generalize posW kindL (cutA 32 (cutB 32 r)) = k
  generalize cutB 32 (cutB 32 r) = v
  generalize cutA 32 r = f
  generalize cutB 32 r = q
  unfold testG
  cases hc : canB 18 f with
  | false => exact ⟨_, rfl, fun q h => by simp at h⟩
  | true =>
  simp only [if_true, Bool.not_true, Bool.false_or, true_and]
  by_cases hk : k < 0
  · have hk0 : ¬ 0 ≤ k := by omega
    simp only [decide_eq_true hk, hk0, if_true, if_false]
    exact ⟨_, rfl, fun q h => by cases h⟩
  have hk0 : 0 ≤ k := by omega
  simp only [decide_eq_false hk, hk0, Bool.false_eq_true, if_true, if_false]
  by_cases h0 : k = 0
  · subst h0
    simp only [beq_self_eq_true, if_true]
    by_cases hm : (32 : UInt8) ∈ q
    · rw [if_pos hm, decide_eq_true hm]
      exact ⟨_, rfl, fun q h => by cases h⟩
    · rw [if_neg hm, decide_eq_false hm]
      exact ⟨_, rfl, fun q h => by cases h; rfl⟩
  simp only [show (k == 0) = false by simpa using h0, Bool.false_eq_true, if_false, if_neg h0]
  by_cases h3 : k = 3
  · subst h3
    simp only [beq_self_eq_true, if_true]
    by_cases hm : (32 : UInt8) ∈ q
    · rw [if_pos hm, decide_eq_true hm]
      exact ⟨_, rfl, fun q h => by cases h; rfl⟩
    · rw [if_neg hm, decide_eq_false hm]
      exact ⟨_, rfl, fun q h => by cases h⟩
  simp only [show (k == 3) = false by simpa using h3, Bool.false_eq_true, if_false, if_neg h3, Option.bind_some]
  cases hcv : canB 18 v with
  | false =>
    simp only [Bool.false_eq_true, and_false, if_false, Bool.false_and]
    exact ⟨_, rfl, fun q h => by cases h⟩
  | true =>
    by_cases hm : (32 : UInt8) ∈ q
    · simp only [hm, and_self, if_true, decide_true, Bool.and_self]
      exact ⟨_, rfl, fun q h => by cases h; rfl⟩
    · simp only [hm, false_and, if_false, decide_false, Bool.and_false]
      exact ⟨_, rfl, fun q h => by cases h⟩

theorem indexB_cut (l : List UInt8) : Go.Lib.indexB (tb l) (tb [32]) = if (32 : UInt8) ∈ l then ((cutA 32 l).length : Int) else -1 := by
  show Go.Lib.index (tb l).data.toList (tb [32]).data.toList = _
  rw [tb_list, tb_list, ← ib_cut]
  induction l with
  | nil => rfl
  | cons b l ih =>
    rw [Go.Lib.index, Go.Lib.indexByte, ih]
    simp only [List.isPrefixOf, Bool.and_true]
    by_cases hb : b = 32
    · subst hb; rfl
    · have h1 : ((32 : UInt8) == b) = false := by simpa using Ne.symm hb
      have h2 : (b == (32 : UInt8)) = false := by simpa using hb
      rw [h1, h2]
theorem split_step (n : Nat) (l : List UInt8) : Go.Lib.splitB (tb [32]) 0 (n + 1) (tb l) = if (32 : UInt8) ∈ l then tb (cutA 32 l) :: Go.Lib.splitB (tb [32]) 0 n (tb (cutB 32 l)) else [tb l] := by
  rw [Go.Lib.splitB, indexB_cut]
  by_cases h : (32 : UInt8) ∈ l
  · have hj := cut_join 32 l h
    rw [if_pos h, if_pos h, if_neg (by rw [beq_iff_eq]; omega), Int.toNat_natCast, Nat.add_zero]
    have hx : ∀ a b, a ≤ b → b ≤ l.length → (tb l).extract a b = tb ((l.take b).drop a) := fun a b h1 h2 => by
      have := tb_slice l a b h1 h2
      unfold sliceS bounds at this
      simp only [Option.getD_some, tb_size] at this
      rw [if_pos (by omega)] at this
      simpa using this
    have hlen := congrArg List.length hj
    rw [List.length_append, List.length_cons] at hlen
    rw [tb_size, tb_size, hx _ _ (Nat.zero_le _) (by omega), hx _ _ (by simp; omega) (Nat.le_refl _), List.take_length, List.drop_zero]
    congr 2
    · conv => lhs; rhs; rw [hj]
      exact List.take_left' rfl
    · congr 1
      conv => lhs; rhs; rw [hj]
      rw [List.drop_append]
      simp
  · rw [if_neg h, if_neg h, if_pos (by simp)]
theorem split_enough : ∀ (n m : Nat) (l : List UInt8), l.length ≤ n → l.length ≤ m → Go.Lib.splitB (tb [32]) 0 n (tb l) = Go.Lib.splitB (tb [32]) 0 m (tb l)
  | 0, m, l, h, _ => by
    obtain rfl : l = [] := List.eq_nil_of_length_eq_zero (by omega)
    cases m with
    | zero => rfl
    | succ m => rw [split_step, if_neg (by simp)]; rfl
  | n + 1, 0, l, _, h => by
    obtain rfl : l = [] := List.eq_nil_of_length_eq_zero (by omega)
    rw [split_step, if_neg (by simp)]; rfl
  | n + 1, m + 1, l, h1, h2 => by
    rw [split_step, split_step]
    by_cases h : (32 : UInt8) ∈ l
    · have hlen := congrArg List.length (cut_join 32 l h)
      rw [List.length_append, List.length_cons] at hlen
      rw [if_pos h, if_pos h, split_enough n m (cutB 32 l) (by omega) (by omega)]
    · rw [if_neg h, if_neg h]
theorem splitn_val (l : List UInt8) (hl : l.length ≤ 400000) : strings_SplitN (tb l) (⟨#[32]⟩ : ByteArray) 4 = some (Go.Lib.splitB (tb [32]) 0 3 (tb l)) := by
  unfold strings_SplitN strings_genSplit
  rw [if_pos ⟨by rw [tb_size]; omega, by decide, by decide, by decide, Or.inr ⟨by decide, by decide⟩⟩, Option.bind_some, if_neg (by decide)]
  rw [tb_size]
  rcases Nat.lt_or_ge l.length 3 with h | h
  · rw [show min (4 : Int).toNat (l.length + 1) - 1 = l.length by simp; omega]
    congr 1
    exact split_enough _ _ l (Nat.le_refl _) (by omega)
  · rw [show min (4 : Int).toNat (l.length + 1) - 1 = 3 by simp; omega]
    rfl

/-- a line that begins with the word of a test, by the document -/
theorem doc_test (r : List UInt8) (hr : (whenW ++ 32 :: r).length ≤ 400000) : ∃ t, portref2_readTest (tb (whenW ++ 32 :: r)) = some (t, (testF r).isSome) ∧ ∀ q, testF r = some q → t = q := by
  have hr2 : r.length ≤ 400000 := by simp at hr; omega
  have hq := cutB_len 32 r
  have hf := cutA_len 32 r
  have hv := cutB_len 32 (cutB 32 r)
  unfold portref2_readTest testF
  rw [splitn_val _ hr, Option.bind_some]
  obtain ⟨c1, c2⟩ := cut_at 32 whenW r (by decide)
  have hmem : (32 : UInt8) ∈ whenW ++ 32 :: r := by simp
  rw [split_step, if_pos hmem, c1, c2, split_step]
  have hw0 : strEq (tb whenW) (⟨#[119, 104, 101, 110]⟩ : ByteArray) = true := (tb_eq whenW whenW).trans (decide_eq_true rfl)
  by_cases h1 : (32 : UInt8) ∈ r
  rotate_left
  · have e1 := cut_none 32 r h1
    rw [if_neg h1, e1.1, e1.2]
    have hp : posW kindL (cutA 32 []) = -1 := rfl
    unfold testG
    simp only [hp, show ¬ ((0 : Int) ≤ -1) by decide, and_false, if_false]
    exact ⟨_, rfl, fun q h => by cases h⟩
  rw [if_pos h1, split_step]
  have e3 : slices_Index_Lstring_string portref2_valueWords (tb (cutA 32 (cutB 32 r))) = _ := index_val kindL (cutA 32 (cutB 32 r))
  have e4 := doc_num (cutA 32 r) (by omega)
  have e5 := doc_num (cutB 32 (cutB 32 r)) (by omega)
  have hkk : cutA 32 (cutB 32 r) = if (32 : UInt8) ∈ cutB 32 r then cutA 32 (cutB 32 r) else cutB 32 r := by
    by_cases h : (32 : UInt8) ∈ cutB 32 r
    · rw [if_pos h]
    · rw [if_neg h, (cut_none 32 _ h).1]
  generalize cutA 32 r = f at e4
  generalize cutB 32 r = q at e3 e5 hkk
  by_cases h2 : (32 : UInt8) ∈ q
  · rw [if_pos h2, Go.Lib.splitB]
    generalize cutA 32 q = kw at e3
    generalize cutB 32 q = v at e5
    generalize posW kindL kw = k at e3
    unfold testG
    have i0 : idx [tb whenW, tb f, tb kw, tb v] 0 = some (tb whenW) := rfl
    have i1 : idx [tb whenW, tb f, tb kw, tb v] 1 = some (tb f) := rfl
    have i2 : idx [tb whenW, tb f, tb kw, tb v] 2 = some (tb kw) := rfl
    have i3 : idx [tb whenW, tb f, tb kw, tb v] 3 = some (tb v) := rfl
    simp only [List.length_cons, List.length_nil, show decide (((0 + 1 + 1 + 1 + 1 : Nat) : Int) < 3) = false from rfl, show (((0 + 1 + 1 + 1 + 1 : Nat) : Int) == 3) = false from rfl, show (((0 + 1 + 1 + 1 + 1 : Nat) : Int) != 4) = false from rfl, Bool.false_eq_true, if_false, i0, i1, i2, i3, Option.bind_some, hw0, Bool.not_true, e3, e4, e5, h2, true_and, if_true]
    cases hc : canB 18 f with
    | false =>
      simp only [Bool.false_eq_true, if_false, Bool.not_false, Bool.true_or, if_true, false_and]
      exact ⟨_, rfl, fun q h => by cases h⟩
    | true =>
    simp only [if_true, Bool.not_true, Bool.false_or, true_and]
    by_cases hk : k < 0
    · have hk0 : ¬ 0 ≤ k := by omega
      simp only [decide_eq_true hk, hk0, if_true, if_false]
      exact ⟨_, rfl, fun q h => by cases h⟩
    have hk0 : 0 ≤ k := by omega
    simp only [decide_eq_false hk, hk0, Bool.false_eq_true, if_true, if_false]
    by_cases h0 : k = 0
    · subst h0
      simp only [beq_self_eq_true, if_true]
      exact ⟨_, rfl, fun q h => by cases h⟩
    simp only [show (k == 0) = false by simpa using h0, Bool.false_eq_true, if_false, if_neg h0]
    by_cases h3 : k = 3
    · subst h3
      simp only [beq_self_eq_true, if_true]
      exact ⟨_, rfl, fun q h => by cases h; rfl⟩
    simp only [show (k == 3) = false by simpa using h3, Bool.false_eq_true, if_false, if_neg h3]
    cases hcv : canB 18 v with
    | false =>
      simp only [Bool.false_eq_true, if_false]
      exact ⟨_, rfl, fun q h => by cases h⟩
    | true =>
      simp only [if_true]
      exact ⟨_, rfl, fun q h => by cases h; rfl⟩
  · rw [if_neg h2] at hkk
    rw [if_neg h2]
    rw [hkk] at e3 ⊢
    generalize cutB 32 q = v at e5
    generalize posW kindL q = k at e3
    unfold testG
    have i0 : idx [tb whenW, tb f, tb q] 0 = some (tb whenW) := rfl
    have i1 : idx [tb whenW, tb f, tb q] 1 = some (tb f) := rfl
    have i2 : idx [tb whenW, tb f, tb q] 2 = some (tb q) := rfl
    simp only [List.length_cons, List.length_nil, show decide (((0 + 1 + 1 + 1 : Nat) : Int) < 3) = false from rfl, show (((0 + 1 + 1 + 1 : Nat) : Int) == 3) = true from rfl, show (((0 + 1 + 1 + 1 : Nat) : Int) != 4) = true from rfl, Bool.false_eq_true, if_false, i0, i1, i2, Option.bind_some, hw0, Bool.not_true, e3, e4, h2, false_and, if_true]
    cases hc : canB 18 f with
    | false =>
      simp only [Bool.false_eq_true, if_false, Bool.not_false, Bool.true_or, if_true, false_and]
      exact ⟨_, rfl, fun q h => by cases h⟩
    | true =>
    simp only [if_true, Bool.not_true, Bool.false_or, true_and]
    by_cases hk : k < 0
    · have hk0 : ¬ 0 ≤ k := by omega
      simp only [decide_eq_true hk, hk0, if_true, if_false]
      exact ⟨_, rfl, fun q h => by cases h⟩
    have hk0 : 0 ≤ k := by omega
    simp only [decide_eq_false hk, hk0, Bool.false_eq_true, if_true, if_false]
    by_cases h0 : k = 0
    · subst h0
      simp only [beq_self_eq_true, if_true]
      exact ⟨_, rfl, fun q h => by cases h; rfl⟩
    simp only [show (k == 0) = false by simpa using h0, Bool.false_eq_true, if_false, if_neg h0]
    have hno : (if k = 3 then (none : Option level_Test) else none) = none := by split <;> rfl
    rw [hno]
    exact ⟨_, rfl, fun q h => by cases h⟩
/-- any other line -/
theorem doc_other (u : List UInt8) (hu : u.length ≤ 400000) (hn : ¬ (cutA 32 u = whenW ∧ (32 : UInt8) ∈ u)) : ∃ t, portref2_readTest (tb u) = some (t, false) := by
  unfold portref2_readTest
  rw [splitn_val _ hu, Option.bind_some, split_step]
  by_cases h1 : (32 : UInt8) ∈ u
  · rw [if_pos h1]
    have hw : strEq (tb (cutA 32 u)) (⟨#[119, 104, 101, 110]⟩ : ByteArray) = false := (tb_eq _ whenW).trans (decide_eq_false fun h => hn ⟨h, h1⟩)
    generalize Go.Lib.splitB (tb [32]) 0 2 (tb (cutB 32 u)) = rest
    have i0 : idx (tb (cutA 32 u) :: rest) 0 = some (tb (cutA 32 u)) := rfl
    by_cases h3 : decide (((tb (cutA 32 u) :: rest).length : Int) < 3) = true
    · rw [if_pos h3, Option.bind_some, if_pos rfl]
      exact ⟨_, rfl⟩
    · rw [if_neg h3, i0, Option.bind_some, hw, Option.bind_some, if_pos (by rfl)]
      exact ⟨_, rfl⟩
  · rw [if_neg h1]
    exact ⟨_, rfl⟩
end Go.Proofs.YtcbebdcofipcpaaGreatDoor.M
