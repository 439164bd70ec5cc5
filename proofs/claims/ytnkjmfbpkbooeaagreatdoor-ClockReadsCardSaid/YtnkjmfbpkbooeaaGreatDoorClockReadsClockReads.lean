/-
  ClockReads: the plain part.
-/
import Derived.Test.YtnkjmfbpkbooeaaGreatDoorClockReadsLvlNumber
import Derived.Test.YtnkjmfbpkbooeaaGreatDoorClockReadsSplitText
import Derived.Test.YtnkjmfbpkbooeaaGreatDoorClockReadsClkOne
namespace Go.Proofs.YtnkjmfbpkbooeaaGreatDoor.M
open Go Go.Pu
set_option linter.unusedSimpArgs false
set_option linter.unusedVariables false

theorem suffix_val (l : List UInt8) (hl : l.length ≤ 400000) : ∃ (t : List UInt8) (b : Bool), strings_CutSuffix (tb l) (⟨#[10]⟩ : ByteArray) = some (tb t, b) ∧ t.length ≤ l.length := by
  unfold strings_CutSuffix internal_stringslite_CutSuffix internal_stringslite_HasSuffix
  have h1 : (⟨#[10]⟩ : ByteArray) = tb [10] := rfl
  rw [h1, tb_size, tb_size]
  cases hq : l with
  | nil => exact ⟨[], false, rfl, Nat.le_refl _⟩
  | cons b r =>
    rw [← hq]
    have hne : 1 ≤ l.length := by rw [hq]; simp
    have hw : w64 ((l.length : Int) - (([10] : List UInt8).length : Int)) = ((l.length - 1 : Nat) : Int) := by
      rw [w64_id (by simp; omega) (by simp; omega)]; simp; omega
    rw [if_pos (by simp; omega), hw, tb_sliceL _ _ (by omega), Option.bind_some, Option.bind_some, Option.bind_some]
    by_cases hb : (!(strEq (tb (l.drop (l.length - 1))) (tb [10]))) = true
    · rw [if_pos hb]
      exact ⟨l, false, rfl, Nat.le_refl _⟩
    · rw [if_neg hb, tb_sliceH _ _ (by omega)]
      exact ⟨l.take (l.length - 1), true, rfl, by rw [List.length_take]; omega⟩
/-- the words' numbers -/
def okN (ws : List (List UInt8)) : Bool := ws.all (canB 9)
theorem nums_code (ws : List (List UInt8)) (h : ∀ w ∈ ws, w.length ≤ 400000) (hn : ws.length ≤ 400001) : level_numbers (ws.map tb) 9 = some (if okN ws = true then (ws.map numOf, true) else ([], false)) := by
  unfold level_numbers
  have key : ∀ (ws : List (List UInt8)), (∀ w ∈ ws, w.length ≤ 400000) → ∀ (k : Nat) (acc : List Int), acc.length + ws.length ≤ 400001 → forL (R := List Int × Bool) (fun (_ : Nat) (x29 : ByteArray) (s14 : List Int) => Option.bind (level_number x29 9) fun x33 => if (!x33.2) = true then some (.rt (([] : (List Int)), false)) else Option.bind (appendL 17592186044416 s14 ([x33.1] : List Int)) fun x43 => some (.nx x43)) (ws.map tb) k acc = some (if okN ws = true then .fin (acc ++ ws.map numOf) else .rt ([], false)) := by
    intro ws
    induction ws with
    | nil => intro _ k acc _; simp [forL, okN]
    | cons w ws ih =>
      intro h k acc ha
      rw [List.map_cons, forL]
      have hc : level_number (tb w) 9 = _ := num_code w (by have := h w List.mem_cons_self; omega) 9 (by omega)
      rw [hc, Option.bind_some]
      rw [List.length_cons] at ha
      cases hw : canB 9 w with
      | false =>
        have : okN (w :: ws) = false := by unfold okN; rw [List.all_cons, hw]; rfl
        rw [this]
        rfl
      | true =>
        have : okN (w :: ws) = okN ws := by unfold okN; rw [List.all_cons, hw]; rfl
        rw [this]
        simp only [if_true, Bool.not_true, Bool.false_eq_true, if_false]
        rw [appendL, if_pos (by simp; omega), Option.bind_some]
        simp only
        rw [ih (fun x hx => h x (List.mem_cons_of_mem _ hx)) _ _ (by simp; omega)]
        simp
  rw [rangeB_forL (R := List Int × Bool) (ws.map tb) (fun (_ : Nat) (x29 : ByteArray) (s14 : List Int) => Option.bind (level_number x29 9) fun x33 => if (!x33.2) = true then some (.rt (([] : (List Int)), false)) else Option.bind (appendL 17592186044416 s14 ([x33.1] : List Int)) fun x43 => some (.nx x43)) _ (fun k s x hx => by rw [idx_nat, hx]; rfl), key ws h 0 [] (by simp; exact hn), Option.bind_some]
  cases okN ws <;> rfl
theorem nums_ref (w0 : List UInt8) (ws : List (List UInt8)) (l : List UInt8) (hsp : spl 32 l = w0 :: ws) (hl : l.length ≤ 400000) : portref2_lineNumbers (tb l) 9 = some (if okN ws = true then (tb w0, ws.map numOf, true) else ((⟨#[]⟩ : ByteArray), [], false)) := by
  unfold portref2_lineNumbers
  have hs : strings_Split (tb l) (⟨#[32]⟩ : ByteArray) = _ := split_val 32 l (by omega)
  rw [hs, hsp, Option.bind_some]
  have hlen := spl_len 32 l
  have hsm := spl_small 32 l
  rw [hsp] at hlen hsm
  rw [List.length_cons] at hlen
  have hsl : sliceL ((w0 :: ws).map tb) (some 1) none = some (ws.map tb) := by
    unfold sliceL bounds
    simp only [Option.getD_some, Option.getD_none]
    rw [if_pos (by simp; omega)]
    simp only [Option.map_some, Int.toNat_natCast, List.take_length]
    rfl
  rw [hsl, Option.bind_some]
  have key : ∀ (ws : List (List UInt8)), (∀ w ∈ ws, w.length ≤ 400000) → ∀ (k : Nat) (acc : List Int), acc.length + ws.length ≤ 400001 → forL (R := ByteArray × List Int × Bool) (fun (_ : Nat) (x36 : ByteArray) (s21 : List Int) => Option.bind (portref2_number x36 9) fun x40 => if (!x40.2) = true then some (.rt ((⟨#[]⟩ : ByteArray), ([] : (List Int)), false)) else Option.bind (appendL 17592186044416 s21 ([x40.1] : List Int)) fun x50 => some (.nx x50)) (ws.map tb) k acc = some (if okN ws = true then .fin (acc ++ ws.map numOf) else .rt ((⟨#[]⟩ : ByteArray), [], false)) := by
    intro ws
    induction ws with
    | nil => intro _ k acc _; simp [forL, okN]
    | cons w ws ih =>
      intro h k acc ha
      rw [List.map_cons, forL]
      have hc : portref2_number (tb w) 9 = _ := num_ref w (by have := h w List.mem_cons_self; omega) 9 (by omega)
      rw [hc, Option.bind_some]
      rw [List.length_cons] at ha
      cases hw : canB 9 w with
      | false =>
        have : okN (w :: ws) = false := by unfold okN; rw [List.all_cons, hw]; rfl
        rw [this]
        rfl
      | true =>
        have : okN (w :: ws) = okN ws := by unfold okN; rw [List.all_cons, hw]; rfl
        rw [this]
        simp only [if_true, Bool.not_true, Bool.false_eq_true, if_false]
        rw [appendL, if_pos (by simp; omega), Option.bind_some]
        simp only
        rw [ih (fun x hx => h x (List.mem_cons_of_mem _ hx)) _ _ (by simp; omega)]
        simp
  rw [rangeB_forL (R := ByteArray × List Int × Bool) (ws.map tb) (fun (_ : Nat) (x36 : ByteArray) (s21 : List Int) => Option.bind (portref2_number x36 9) fun x40 => if (!x40.2) = true then some (.rt ((⟨#[]⟩ : ByteArray), ([] : (List Int)), false)) else Option.bind (appendL 17592186044416 s21 ([x40.1] : List Int)) fun x50 => some (.nx x50)) _ (fun k s x hx => by rw [idx_nat, hx]; rfl), key ws (fun w hw => by have := hsm w (List.mem_cons_of_mem _ hw); omega) 0 [] (by simp; omega), Option.bind_some]
  cases okN ws with
  | false => rfl
  | true => rfl
theorem pieces_loop (n : List Int) (hn : n.length ≤ 400001) (h3 : n.length % 3 = 0) (h6 : 6 ≤ n.length) (c : level_Clock) (hc : c.pieces = []) : ∃ x, whileB (R := level_Clock × Int) (fun s91 : Int × level_Clock => if (decide (s91.1 < (n.length : Int))) = true then Option.bind (idx n s91.1) fun x108 => Option.bind (idx n (w64 (s91.1 + 1))) fun x113 => Option.bind (idx n (w64 (s91.1 + 2))) fun x118 => Option.bind (appendL 5864062014805 s91.2.pieces ([(⟨x108, x113, x118⟩ : level_Piece)] : List level_Piece)) fun x128 => some (.nx (w64 (s91.1 + 3), (⟨s91.2.kind, s91.2.level, s91.2.minutes, s91.2.start, s91.2.stop, s91.2.end_, x128⟩ : level_Clock))) else some (.bk (s91.1, s91.2))) (6, c) = some (.fin x) := by
  obtain ⟨o, ho, x, rfl⟩ := whileB_spec (R := level_Clock × Int) (body := fun s91 : Int × level_Clock => if (decide (s91.1 < (n.length : Int))) = true then Option.bind (idx n s91.1) fun x108 => Option.bind (idx n (w64 (s91.1 + 1))) fun x113 => Option.bind (idx n (w64 (s91.1 + 2))) fun x118 => Option.bind (appendL 5864062014805 s91.2.pieces ([(⟨x108, x113, x118⟩ : level_Piece)] : List level_Piece)) fun x128 => some (.nx (w64 (s91.1 + 3), (⟨s91.2.kind, s91.2.level, s91.2.minutes, s91.2.start, s91.2.stop, s91.2.end_, x128⟩ : level_Clock))) else some (.bk (s91.1, s91.2)))
    (fun z => ∃ j : Nat, z.1 = (j : Int) ∧ j % 3 = 0 ∧ j ≤ n.length ∧ z.2.pieces.length ≤ j) (fun z => n.length - z.1.toNat) (fun o => ∃ x, o = .fin x) (s := (6, c)) ⟨6, rfl, by decide, h6, by rw [hc]; simp⟩ (by
      rintro ⟨_, c⟩ ⟨j, rfl, j1, j2, j3⟩
      simp only at j3 ⊢
      by_cases hj : j < n.length
      · have hw1 : w64 ((j : Int) + 1) = ((j + 1 : Nat) : Int) := by rw [w64_id (by omega) (by omega)]; rfl
        have hw2 : w64 ((j : Int) + 2) = ((j + 2 : Nat) : Int) := by rw [w64_id (by omega) (by omega)]; rfl
        have hw3 : w64 ((j : Int) + 3) = ((j + 3 : Nat) : Int) := by rw [w64_id (by omega) (by omega)]; rfl
        rw [if_pos (by simpa using hj), hw1, hw2, hw3, idx_lt _ _ hj, idx_lt _ _ (show j + 1 < n.length by omega), idx_lt _ _ (show j + 2 < n.length by omega)]
        simp only [Option.bind_some]
        rw [appendL, if_pos (by simp; omega), Option.bind_some]
        refine ⟨_, rfl, ⟨j + 3, rfl, by omega, by omega, by simp; omega⟩, by simp only [Int.toNat_natCast]; omega⟩
      · rw [if_neg (by simpa using hj)]
        exact ⟨_, rfl, _, rfl⟩)
  exact ⟨x, ho⟩
theorem equal_pieces (l : List level_Piece) : slices_Equal_Llevel_Piece_level_Piece l l = some true := by
  unfold slices_Equal_Llevel_Piece_level_Piece
  rw [if_neg (by simp)]
  obtain ⟨t, ho, _⟩ := rangeB_inv (R := Bool) (b := fun k9 _ => Option.bind (idx l (k9 : Int)) fun x29 => Option.bind (idx l (k9 : Int)) fun x34 => if (!(x29.from_ == x34.from_ && (x29.to_ == x34.to_ && (x29.calendar == x34.calendar)))) = true then some (.rt false) else some (.nx ())) l.length (fun _ (_ : Unit) => True) (s := ()) trivial (by
    intro k _ hk _
    rw [idx_nat, List.getElem?_eq_getElem hk]
    simp only [Option.bind_some]
    rw [if_neg (by simp)]
    exact ⟨_, rfl, trivial⟩)
  rw [ho, Option.bind_some, Lp.andThen_fin]
theorem alike_self (c : level_Clock) : portref2_Alike c c = some true := by
  unfold portref2_Alike portref2_alikeClock
  simp only [beq_self_eq_true, if_true, equal_pieces, Option.bind_some]
theorem contains_val (l : List UInt8) : strings_Contains (tb l) (⟨#[10]⟩ : ByteArray) = some (decide (10 ∈ l)) := by
  unfold strings_Contains
  have h1 : (⟨#[10]⟩ : ByteArray).data.toList = [10] := rfl
  rw [h1]
  simp only [tb_list]
  rw [ib_cut]
  by_cases h : 10 ∈ l
  · rw [if_pos h, decide_eq_true h]; simp
  · rw [if_neg h, decide_eq_false h]; rfl
theorem reads_true (s : ByteArray) : portlaw2_ClockReads s = some true := by
  suffices hx : ∃ x, level_ReadClock s = some x ∧ portref2_ReadClockOf s = some x by
    obtain ⟨x, q1, q2⟩ := hx
    unfold portlaw2_ClockReads
    rw [q1, q2, Option.bind_some, Option.bind_some, alike_self]
    simp
  unfold level_ReadClock portref2_ReadClockOf
  by_cases hs : s.size ≤ 400000
  rotate_left
  · rw [if_pos (by simp; omega), if_pos (by simp; omega)]
    exact ⟨_, rfl, rfl⟩
  rw [if_neg (by simp; omega), if_neg (by simp; omega)]
  have hl : s.data.toList.length ≤ 400000 := hs
  rw [← tb_of s]
  generalize s.data.toList = l at hl
  obtain ⟨t, e, ht, htl⟩ := suffix_val l hl
  rw [ht, Option.bind_some, Option.bind_some]
  simp only
  obtain ⟨w0, ws, hsp⟩ : ∃ w0 ws, spl 32 t = w0 :: ws := by
    cases h : spl 32 t with
    | nil => exact absurd h (spl_ne 32 t)
    | cons a b => exact ⟨a, b, rfl⟩
  have hs2 : strings_Split (tb t) (⟨#[32]⟩ : ByteArray) = _ := split_val 32 t (by omega)
  rw [hs2, nums_ref w0 ws t hsp (by omega), hsp, Option.bind_some, Option.bind_some]
  have hlen := spl_len 32 t
  have hsm := spl_small 32 t
  rw [hsp] at hlen hsm
  rw [List.length_cons] at hlen
  have hsl : sliceL ((w0 :: ws).map tb) (some 1) none = some (ws.map tb) := by
    unfold sliceL bounds
    simp only [Option.getD_some, Option.getD_none]
    rw [if_pos (by simp; omega)]
    simp only [Option.map_some, Int.toNat_natCast, List.take_length]
    rfl
  rw [hsl, Option.bind_some, nums_code ws (fun w hw => by have := hsm w (List.mem_cons_of_mem _ hw); omega) (by omega), Option.bind_some]
  have hi0 : idx ((w0 :: ws).map tb) 0 = some (tb w0) := rfl
  rw [hi0, contains_val]
  simp only [Option.bind_some]
  have hclk : (⟨#[99, 108, 111, 99, 107]⟩ : ByteArray) = tb [99, 108, 111, 99, 107] := rfl
  rw [hclk, tb_eq]
  have e1 : (if (!e) = true then some true else some (!(decide (w0 = [99, 108, 111, 99, 107])))) = some (!e || !(decide (w0 = [99, 108, 111, 99, 107]))) := by cases e <;> rfl
  rw [e1, Option.bind_some]
  cases hok : okN ws with
  | false =>
    simp only [Bool.false_eq_true, if_false, Bool.not_false, Bool.or_true, Bool.true_or, if_true]
    refine ⟨_, rfl, ?_⟩
    cases e <;> rfl
  | true =>
    simp only [if_true, Bool.not_true, Bool.or_false]
    rw [tb_eq]
    generalize hn : ws.map numOf = n
    have hnl : n.length ≤ 400001 := by rw [← hn, List.length_map]; omega
    by_cases hgood : e = true ∧ w0 = [99, 108, 111, 99, 107] ∧ 6 ≤ n.length ∧ n.length % 3 = 0
    · obtain ⟨g1, g2, g3, g4⟩ := hgood
      have g5 : Int.tmod (n.length : Int) 3 = 0 := by
        rw [Int.tmod_eq_emod_of_nonneg (by omega)]
        omega
      have g6 : 10 ∉ t := by
        intro hm
        obtain ⟨x, x1, x2⟩ := spl_mem 32 10 (by decide) t hm
        rw [hsp] at x1
        rcases List.mem_cons.1 x1 with rfl | x1
        · rw [g2] at x2
          exact absurd x2 (by decide)
        · have hc := List.all_eq_true.1 hok x x1
          obtain ⟨_, _, c3, _, _⟩ := (can_spec 9 x).1 hc
          have hnb : (10 : UInt8) ∉ bare x := fun hm => by
            have := List.all_eq_true.1 c3 10 hm
            exact absurd this (by decide)
          unfold bare at hnb
          split at hnb
          · rcases List.mem_cons.1 x2 with q | q
            · exact absurd q (by decide)
            · exact hnb q
          · exact hnb x2
      rw [g1, decide_eq_true g2, g5, decide_eq_false (show ¬ (n.length : Int) < 6 by omega), decide_eq_false g6]
      simp only [Bool.not_true, Bool.or_self, bne_self_eq_false, Bool.false_eq_true, if_false]
      have i0 := idx_lt n 0 (by omega)
      have i1 := idx_lt n 1 (by omega)
      have i2 := idx_lt n 2 (by omega)
      have i3 := idx_lt n 3 (by omega)
      have i4 := idx_lt n 4 (by omega)
      have i5 := idx_lt n 5 (by omega)
      have j0 : idx n 0 = some n[0] := i0
      have j1 : idx n 1 = some n[1] := i1
      have j2 : idx n 2 = some n[2] := i2
      have j3 : idx n 3 = some n[3] := i3
      have j4 : idx n 4 = some n[4] := i4
      have j5 : idx n 5 = some n[5] := i5
      rw [j0, j1, j2, j3, j4, j5]
      simp only [Option.bind_some]
      obtain ⟨x, hx⟩ := pieces_loop n hnl g4 g3 ⟨n[0], n[1], n[2], n[3], n[4], n[5], []⟩ rfl
      rw [hx]
      simp only [Option.bind_some, Lp.andThen_fin]
      obtain ⟨r, r1, r2, _⟩ := clock_eq x.2
      rw [r1, r2]
      simp only [Option.bind_some, Bool.false_eq_true, if_false]
      by_cases hr : (r != 0) = true
      · rw [if_pos hr]
        exact ⟨_, rfl, rfl⟩
      · rw [if_neg hr]
        exact ⟨_, rfl, rfl⟩
    · have hcond : (((!e || !(decide (w0 = [99, 108, 111, 99, 107]))) || (decide ((n.length : Int) < 6))) || ((Int.tmod (n.length : Int) 3) != 0)) = true := by
        by_cases g1 : e = true
        · by_cases g2 : w0 = [99, 108, 111, 99, 107]
          · by_cases g3 : 6 ≤ n.length
            · have g4 : ¬ n.length % 3 = 0 := fun q => hgood ⟨g1, g2, g3, q⟩
              have : (Int.tmod (n.length : Int) 3 != 0) = true := by
                rw [bne_iff_ne, Int.tmod_eq_emod_of_nonneg (by omega)]
                omega
              rw [this, Bool.or_true]
            · rw [decide_eq_true (show (n.length : Int) < 6 by omega)]
              simp
          · rw [decide_eq_false g2]; simp
        · have : e = false := by simpa using g1
          rw [this]; simp
      rw [if_pos hcond]
      refine ⟨_, rfl, ?_⟩
      revert hcond
      generalize (Int.tmod (n.length : Int) 3 != 0) = b4
      generalize decide ((n.length : Int) < 6) = b3
      generalize decide (w0 = [99, 108, 111, 99, 107]) = b2
      generalize decide (10 ∈ t) = b5
      cases e <;> cases b2 <;> cases b3 <;> cases b4 <;> intro hcond <;> first | rfl | (exact absurd hcond (by decide))
end Go.Proofs.YtnkjmfbpkbooeaaGreatDoor.M
