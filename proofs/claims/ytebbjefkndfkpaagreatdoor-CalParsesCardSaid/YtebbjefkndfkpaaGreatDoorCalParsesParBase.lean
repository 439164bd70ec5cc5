/-
  Calendars read, line by line: plain part.
-/
import Derived.Test.YtebbjefkndfkpaaGreatDoorCalParsesCalNumber
import Derived.Test.YtebbjefkndfkpaaGreatDoorCalParsesSplitText
import Derived.Test.YtebbjefkndfkpaaGreatDoorCalParsesCutVal
import Derived.Test.YtebbjefkndfkpaaGreatDoorCalParsesPatchBase
import Derived.Test.YtebbjefkndfkpaaGreatDoorCalParsesCalBase
namespace Go.Proofs.YtebbjefkndfkpaaGreatDoor.M
open Go Go.Pu
set_option linter.unusedSimpArgs false
set_option linter.unusedVariables false

theorem whileB_eq {S R : Type} (body : S → Option (Ctl S R)) (s : S) : whileB body s = Option.bind (body s) fun x => match x with
    | .nx s' => whileB body s'
    | .bk s' => some (.fin s')
    | .rt r => some (.rt r) := by
  ext r
  rw [whileB_iff]
  constructor
  · rintro ⟨n, hn⟩
    cases n with
    | zero => simp [whileN] at hn
    | succ n =>
      rw [whileN] at hn
      cases hb : body s with
      | none => rw [hb] at hn; cases hn
      | some x =>
        rw [hb] at hn
        cases x with
        | nx s' => exact whileB_iff.2 ⟨n, hn⟩
        | bk s' => exact hn
        | rt r => exact hn
  · intro h
    cases hb : body s with
    | none => rw [hb] at h; cases h
    | some x =>
      rw [hb] at h
      cases x with
      | nx s' =>
        obtain ⟨n, hn⟩ := whileB_iff.1 h
        exact ⟨n + 1, by rw [whileN, hb]; exact hn⟩
      | bk s' => exact ⟨1, by rw [whileN, hb]; exact h⟩
      | rt r => exact ⟨1, by rw [whileN, hb]; exact h⟩
/-- the words' numbers -/
def okN (ws : List (List UInt8)) : Bool := ws.all (canB 9)
theorem nums_ref (w0 : List UInt8) (ws : List (List UInt8)) (l : List UInt8) (hsp : spl 32 l = w0 :: ws) (hl : l.length ≤ 400000) : portref2_lineNumbers (tb l) 9 = some (if okN ws = true then (tb w0, ws.map numOf, true) else ((⟨#[]⟩ : ByteArray), [], false)) := by
  unfold portref2_lineNumbers
  have hs : strings_Split (tb l) (⟨#[32]⟩ : ByteArray) = _ := split_val 32 l (by omega)
  rw [hs, hsp, Option.bind_some]
  have hlen := spl_len 32 l
  have hsm := spl_small 32 l
  rw [hsp] at hlen hsm
  rw [List.length_cons] at hlen
  have hsl : sliceL ((w0 :: ws).map tb) (some 1) none = some (ws.map tb) := by
    unfold sliceL bounds
    simp only [Option.getD_some, Option.getD_none]
    rw [if_pos (by simp; omega)]
    simp only [Option.map_some, Int.toNat_natCast, List.take_length]
    rfl
  rw [hsl, Option.bind_some]
  have key : ∀ (ws : List (List UInt8)), (∀ w ∈ ws, w.length ≤ 400000) → ∀ (k : Nat) (acc : List Int), acc.length + ws.length ≤ 400001 → forL (R := ByteArray × List Int × Bool) (fun (_ : Nat) (x36 : ByteArray) (s21 : List Int) => Option.bind (portref2_number x36 9) fun x40 => if (!x40.2) = true then some (.rt ((⟨#[]⟩ : ByteArray), ([] : (List Int)), false)) else Option.bind (appendL 17592186044416 s21 ([x40.1] : List Int)) fun x50 => some (.nx x50)) (ws.map tb) k acc = some (if okN ws = true then .fin (acc ++ ws.map numOf) else .rt ((⟨#[]⟩ : ByteArray), [], false)) := by
    intro ws
    induction ws with
    | nil => intro _ k acc _; simp [forL, okN]
    | cons w ws ih =>
      intro h k acc ha
      rw [List.map_cons, forL]
      have hc : portref2_number (tb w) 9 = _ := num_ref w (by have := h w List.mem_cons_self; omega) 9 (by omega)
      rw [hc, Option.bind_some]
      rw [List.length_cons] at ha
      cases hw : canB 9 w with
      | false =>
        have : okN (w :: ws) = false := by unfold okN; rw [List.all_cons, hw]; rfl
        rw [this]
        rfl
      | true =>
        have : okN (w :: ws) = okN ws := by unfold okN; rw [List.all_cons, hw]; rfl
        rw [this]
        simp only [if_true, Bool.not_true, Bool.false_eq_true, if_false]
        rw [appendL, if_pos (by simp; omega), Option.bind_some]
        simp only
        rw [ih (fun x hx => h x (List.mem_cons_of_mem _ hx)) _ _ (by simp; omega)]
        simp
  rw [rangeB_forL (R := ByteArray × List Int × Bool) (ws.map tb) (fun (_ : Nat) (x36 : ByteArray) (s21 : List Int) => Option.bind (portref2_number x36 9) fun x40 => if (!x40.2) = true then some (.rt ((⟨#[]⟩ : ByteArray), ([] : (List Int)), false)) else Option.bind (appendL 17592186044416 s21 ([x40.1] : List Int)) fun x50 => some (.nx x50)) _ (fun k s x hx => by rw [idx_nat, hx]; rfl), key ws (fun w hw => by have := hsm w (List.mem_cons_of_mem _ hw); omega) 0 [] (by simp; omega), Option.bind_some]
  cases okN ws with
  | false => rfl
  | true => rfl

theorem after_val (l : List UInt8) (hl : l.length ≤ 4000000000) : strings_SplitAfter (tb l) (tb [10]) = some ((cutL l).map tb) := by
  unfold strings_SplitAfter strings_genSplit
  rw [if_pos ⟨by rw [tb_size]; omega, by rw [tb_size]; exact Nat.le_refl _, by rw [tb_size]; decide, Int.le_refl _, rfl⟩, Option.bind_some]
  congr 1
  have hc := Go.Lib.countB_le (tb [10]) (by rw [tb_size]; exact Nat.le_refl _) (tb l).size (tb l) (Nat.le_refl _)
  rw [show min (Go.Lib.countB (tb l) (tb [10]) + 1) ((tb l).size + 1) - 1 = Go.Lib.countB (tb l) (tb [10]) by omega]
  have hd := Go.Lib.splitB_data (tb [10]) 1 (Go.Lib.countB (tb l) (tb [10])) (tb l)
  have hk : Go.Lib.countB (tb l) (tb [10]) = Go.Lib.count l [10] := by
    show Go.Lib.count (tb l).data.toList (tb [10]).data.toList = _
    rw [tb_list, tb_list]
  rw [tb_list, tb_list, hk, splitK_cut _ l (Nat.le_refl _)] at hd
  have h1 : (((tb [10]).size : Int)).toNat = 1 := by rw [tb_size]; rfl
  rw [hk, h1, ← hd, List.map_map]
  conv => lhs; rw [← List.map_id (Go.Lib.splitB (tb [10]) _ (Go.Lib.count l [10]) (tb l))]
  apply List.map_congr_left
  intro x _
  exact (tb_of x).symm
theorem suffix_feed (u : List UInt8) (hl : u.length ≤ 400000) : strings_CutSuffix (tb (u ++ [10])) (⟨#[10]⟩ : ByteArray) = some (tb u, true) := by
  unfold strings_CutSuffix internal_stringslite_CutSuffix internal_stringslite_HasSuffix
  have h1 : (⟨#[10]⟩ : ByteArray) = tb [10] := rfl
  have hw : w64 (((u ++ [10]).length : Int) - (([10] : List UInt8).length : Int)) = ((u.length : Nat) : Int) := by
    rw [w64_id (by simp <;> omega) (by simp <;> omega)]; simp
  rw [h1, tb_size, tb_size, if_pos (by simp <;> omega), hw, tb_sliceL _ _ (by simp), Option.bind_some, Option.bind_some, Option.bind_some]
  rw [List.drop_left, tb_eq, if_neg (by simp), tb_sliceH _ _ (by simp), List.take_left]
  rfl
theorem suffix_none (t : List UInt8) (hl : t.length ≤ 400000) (hn : noFeed t) : strings_CutSuffix (tb t) (⟨#[10]⟩ : ByteArray) = some (tb t, false) := by
  unfold strings_CutSuffix internal_stringslite_CutSuffix internal_stringslite_HasSuffix
  have h1 : (⟨#[10]⟩ : ByteArray) = tb [10] := rfl
  rw [h1, tb_size, tb_size]
  rcases List.eq_nil_or_concat t with rfl | ⟨u, b, rfl⟩
  · rfl
  · rw [List.concat_eq_append] at hl hn ⊢
    have hlen : (u ++ [b]).length = u.length + 1 := by simp
    have hw : w64 (((u ++ [b]).length : Int) - (([10] : List UInt8).length : Int)) = ((u.length : Nat) : Int) := by
      rw [hlen] at hl ⊢
      rw [w64_id (by simp <;> omega) (by simp <;> omega)]; simp
    have hb : b ≠ 10 := hn b (by simp)
    rw [if_pos (by simp <;> omega), hw, tb_sliceL _ _ (by simp), Option.bind_some, Option.bind_some, Option.bind_some]
    rw [List.drop_left, tb_eq, if_pos (by simp [hb])]
    rfl

/-- the kinds of lines -/
def kd (w : List UInt8) : Int := if w = [122, 111, 110, 101] then 0 else if w = [99, 104, 97, 110, 103, 101] then 1 else if w = [115, 104, 105, 102, 116] then 2 else if w = [100, 97, 121] then 3 else -1
theorem kd_val (w : List UInt8) : slices_Index_Lstring_string ([(⟨#[122, 111, 110, 101]⟩ : ByteArray), (⟨#[99, 104, 97, 110, 103, 101]⟩ : ByteArray), (⟨#[115, 104, 105, 102, 116]⟩ : ByteArray), (⟨#[100, 97, 121]⟩ : ByteArray)] : List ByteArray) (tb w) = some (kd w) := by
  unfold slices_Index_Lstring_string
  have e0 : strEq (tb w) (⟨#[122, 111, 110, 101]⟩ : ByteArray) = decide (w = [122, 111, 110, 101]) := tb_eq w _
  have e1 : strEq (tb w) (⟨#[99, 104, 97, 110, 103, 101]⟩ : ByteArray) = decide (w = [99, 104, 97, 110, 103, 101]) := tb_eq w _
  have e2 : strEq (tb w) (⟨#[115, 104, 105, 102, 116]⟩ : ByteArray) = decide (w = [115, 104, 105, 102, 116]) := tb_eq w _
  have e3 : strEq (tb w) (⟨#[100, 97, 121]⟩ : ByteArray) = decide (w = [100, 97, 121]) := tb_eq w _
  unfold kd
  simp only [List.length_cons, List.length_nil, rangeB, idx, Option.bind_some]
  simp [e0, e1, e2, e3, Lp.andThen]
  by_cases h0 : w = [122, 111, 110, 101]
  · simp [h0]
  by_cases h1 : w = [99, 104, 97, 110, 103, 101]
  · simp [h1]
  by_cases h2 : w = [115, 104, 105, 102, 116]
  · simp [h2]
  by_cases h3 : w = [100, 97, 121]
  · simp [h3]
  simp [h0, h1, h2, h3]

/-- pairs of numbers as shifts -/
def prs : List Int → List cal_Shift
  | a :: b :: r => ⟨0, a, b⟩ :: prs r
  | _ => []
theorem day_loop {R : Type} (n : List Int) (d : Int) (hn : n.length ≤ 400001) (hodd : n.length % 2 = 1) : ∃ q, whileB (R := R) (fun s254 : Int × cal_Special => if (decide (s254.1 < (n.length : Int))) = true then Option.bind (idx n s254.1) fun x271 => Option.bind (idx n (w64 (s254.1 + 1))) fun x276 => Option.bind (appendL 5864062014805 s254.2.shifts ([(⟨0, x271, x276⟩ : cal_Shift)] : List cal_Shift)) fun x286 => some (.nx (w64 (s254.1 + 2), (⟨s254.2.day, x286⟩ : cal_Special))) else some (.bk (s254.1, s254.2))) (1, (⟨d, ([] : (List cal_Shift))⟩ : cal_Special)) = some (.fin (q, ⟨d, prs (n.drop 1)⟩)) := by
  obtain ⟨o, ho, q, rfl⟩ := whileB_spec (R := R) (body := fun s254 : Int × cal_Special => if (decide (s254.1 < (n.length : Int))) = true then Option.bind (idx n s254.1) fun x271 => Option.bind (idx n (w64 (s254.1 + 1))) fun x276 => Option.bind (appendL 5864062014805 s254.2.shifts ([(⟨0, x271, x276⟩ : cal_Shift)] : List cal_Shift)) fun x286 => some (.nx (w64 (s254.1 + 2), (⟨s254.2.day, x286⟩ : cal_Special))) else some (.bk (s254.1, s254.2)))
    (fun z => ∃ j : Nat, z.1 = (j : Int) ∧ j % 2 = 1 ∧ j ≤ n.length ∧ z.2.day = d ∧ z.2.shifts ++ prs (n.drop j) = prs (n.drop 1) ∧ z.2.shifts.length ≤ j) (fun z => n.length - z.1.toNat) (fun o => ∃ q, o = .fin (q, ⟨d, prs (n.drop 1)⟩)) (s := (1, (⟨d, ([] : (List cal_Shift))⟩ : cal_Special))) ⟨1, rfl, by decide, by omega, rfl, rfl, by simp⟩ (by
      rintro ⟨_, d', sh⟩ ⟨j, rfl, j1, j2, rfl, j4, j5⟩
      simp only at j4 j5 ⊢
      by_cases hj : j < n.length
      · have hw1 : w64 ((j : Int) + 1) = ((j + 1 : Nat) : Int) := by rw [w64_id (by omega) (by omega)]; rfl
        have hw2 : w64 ((j : Int) + 2) = ((j + 2 : Nat) : Int) := by rw [w64_id (by omega) (by omega)]; rfl
        rw [if_pos (by simpa using hj), hw1, hw2, idx_lt _ _ hj, idx_lt _ _ (show j + 1 < n.length by omega)]
        simp only [Option.bind_some]
        rw [appendL, if_pos (by simp; omega), Option.bind_some]
        refine ⟨_, rfl, ⟨j + 2, rfl, by omega, by omega, rfl, ?_, by simp; omega⟩, by simp only [Int.toNat_natCast]; omega⟩
        rw [← j4, List.drop_eq_getElem_cons hj, List.drop_eq_getElem_cons (show j + 1 < n.length by omega), prs]
        simp
      · rw [if_neg (by simpa using hj)]
        obtain rfl : j = n.length := by omega
        rw [List.drop_length] at j4
        simp only [prs, List.append_nil] at j4
        subst j4
        exact ⟨_, rfl, _, rfl⟩)
  exact ⟨q, ho⟩
/-- a line's numbers, taken into a calendar -/
def stepC (c : cal_Calendar) (K : Int) (n : List Int) : Option cal_Calendar :=
  if ((K == 0) && ((n.length : Int) == 1)) = true then some ⟨⟨n.getD 0 0, c.zone.changes⟩, c.week, c.specials⟩
  else if ((K == 1) && ((n.length : Int) == 2)) = true then some ⟨⟨c.zone.offset, c.zone.changes ++ [⟨n.getD 0 0, n.getD 1 0⟩]⟩, c.week, c.specials⟩
  else if ((K == 2) && ((n.length : Int) == 3)) = true then some ⟨c.zone, c.week ++ [⟨n.getD 0 0, n.getD 1 0, n.getD 2 0⟩], c.specials⟩
  else if ((K == 3) && ((Int.tmod (n.length : Int) 2) == 1)) = true then some ⟨c.zone, c.week, c.specials ++ [⟨n.getD 0 0, prs (n.drop 1)⟩]⟩
  else none
def small (c : cal_Calendar) (k : Nat) : Prop := c.zone.changes.length ≤ k ∧ c.week.length ≤ k ∧ c.specials.length ≤ k
theorem step_small {c c' : cal_Calendar} {K : Int} {n : List Int} {k : Nat} (h : small c k) (he : stepC c K n = some c') : small c' (k + 1) := by
  unfold stepC at he
  obtain ⟨h1, h2, h3⟩ := h
  repeat' split at he
  all_goals first | cases he; done | (obtain rfl := Option.some.inj he; refine ⟨?_, ?_, ?_⟩ <;> simp <;> omega)
theorem idx_getD (n : List Int) (k : Nat) (h : k < n.length) : idx n (k : Int) = some (n.getD k 0) := by
  rw [idx_lt _ _ h]
  simp [List.getD, List.getElem?_eq_getElem h]
def badK (K before : Int) : Bool := (((decide (K < 0)) || (decide (K < before))) || ((decide (before < 0)) && (K != 0))) || ((before == 0) && (K == 0))
/-- a line -/
def lineR (c : cal_Calendar) (before : Int) (l : List UInt8) : Option (Int × cal_Calendar) := match spl 32 l with
  | [] => none
  | w0 :: ws => if (badK (kd w0) before || !(okN ws)) = true then none else (stepC c (kd w0) (ws.map numOf)).map fun c' => (kd w0, c')
end Go.Proofs.YtebbjefkndfkpaaGreatDoor.M
