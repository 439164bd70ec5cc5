/-
  Warnings agree with their reference: plain part.
-/
import Derived.Test.YtpfoimbklbkcpaaClockWarnsClkFault
import Derived.Test.YtpfoimbklbkcpaaClockWarnsClkRuns
import Derived.Test.YtpfoimbklbkcpaaClockWarnsClkCounted
import Derived.Test.YtpfoimbklbkcpaaClockWarnsClkFirst
namespace Go.Proofs.Ytpfoimbklbkcpaa.M
open Go Go.Pu
set_option linter.unusedSimpArgs false
set_option linter.unusedVariables false

theorem equal_ints (l : List Int) : slices_Equal_Lint_int l l = some true := by
  unfold slices_Equal_Lint_int
  simp only [bne_self_eq_false, Bool.false_eq_true, if_false]
  obtain ⟨t, ht, hI⟩ := rangeB_inv (R := Bool) (b := fun k9 (_ : Unit) => Option.bind (idx l (k9 : Int)) fun x29 => Option.bind (idx l (k9 : Int)) fun x33 => if (x29 != x33) = true then some (.rt false) else some (.nx ())) l.length (fun _ _ => True) (s := ()) trivial (by
    intro k _ hk _
    have hx := List.getElem?_eq_getElem hk
    exact ⟨(), by simp [idx_nat, hx], trivial⟩)
  rw [ht]
  rfl

/-- a warning by counting, and by looking for the first moment -/
theorem warn_same {c : level_Clock} {cals : List cal_Calendar} (hc : ClockOk c) (hs : SortedP cals c.start c.pieces) (s : Int) (h0 : 0 ≤ s) (h1 : s ≤ 1000) :
    ∃ r, Option.bind (if (decide ((0 : Int) < (w64 (Int.tdiv (w64 ((w64 (s * c.minutes)) + 99)) 100)))) = true then Option.bind (level_counted c cals (w64 ((w64 (Int.tdiv (w64 ((w64 (s * c.minutes)) + 99)) 100)) - 1))) fun x107 => Option.bind (if ((!x107.2) || (decide ((3000000 : Int) < (w64 (x107.1 + 1))))) = true then some (-1) else some (w64 (x107.1 + 1))) fun s114 => some s114 else some c.start) (fun s96 => some s96) = some r ∧
      Option.bind (portref2_meter_first ⟨cals⟩ c (w64 (Int.tdiv (w64 ((w64 (s * c.minutes)) + 99)) 100))) (fun x107 => Option.bind (if (decide ((3000000 : Int) < x107)) = true then some (-1) else some x107) fun s113 => some s113) = some r := by
  have hm := hc.minutes
  have hst := hc.start
  have hp0 : 0 ≤ s * c.minutes := Int.mul_nonneg h0 hm.1
  have hp1 : s * c.minutes ≤ 1000 * 100000 := Int.mul_le_mul h1 hm.2 hm.1 (by omega)
  rw [w64_id (n := s * c.minutes) (by omega) (by omega)]
  generalize s * c.minutes = x at hp0 hp1
  rw [w64_id (n := x + 99) (by omega) (by omega)]
  have hd := (tdiv_spec (x + 99) 100 (by omega)).2.1 (by omega)
  rw [hd.2.2.2.1, w64_id (n := (x + 99) / 100) (by omega) (by omega)]
  generalize hk : (x + 99) / 100 = k
  have hk0 : 0 ≤ k ∧ k ≤ 1000001 := by omega
  obtain ⟨f, hf, f1, f2, f3, f4⟩ := first_val c hc.len hst.1 hst.2 hs k
  rw [hf]
  by_cases hz : 0 < k
  rotate_left
  · have : k = 0 := by omega
    subst this
    have hfs : f = c.start := by
      refine Int.le_antisymm (Int.not_lt.1 fun h => ?_) f1
      have := f3 c.start (Int.le_refl _) h
      have := cnt_nonneg (O := OC cals c.pieces) (a := c.start) (b := c.start)
      omega
    subst hfs
    have : ¬ (3000000 : Int) < c.start := by omega
    simp [this]
  · simp only [hz, decide_true, if_true]
    rw [w64_id (n := k - 1) (by omega) (by omega)]
    rcases counted_val c hst.1 hs (k - 1) (by omega) (by omega) with ⟨m, e, m1, m2, m3, m4⟩ | ⟨e, m1⟩
    · rw [e]
      have hy := cnt_step_yes m1 m4
      have g1 : m + 1 ≤ f := by
        refine Int.not_lt.1 fun h => ?_
        have := f4 (by omega)
        have := cnt_mono (O := OC cals c.pieces) (a := c.start) (m := f) (b := m) f1 (by omega)
        omega
      have g2 : f ≤ m + 1 := Int.not_lt.1 fun h => by have := f3 (m + 1) (by omega) h; omega
      obtain rfl : f = m + 1 := by omega
      simp only [Option.bind_some, w64_id (n := m + 1) (by omega) (by omega), Bool.not_true, Bool.false_or]
      by_cases h3 : (3000000 : Int) < m + 1
      · simp [h3]
      · simp [h3]
    · rw [e]
      have hff : (3000000 : Int) < f := Int.not_le.1 fun h => by
        have := f4 h
        have := cnt_mono (O := OC cals c.pieces) (a := c.start) (m := f) (b := 3000001) f1 (by omega)
        omega
      simp [hff]

theorem warns_true (c : level_Clock) (cals : List cal_Calendar) (shares : List Int) : portlaw2_ClockWarns c cals shares = some true := by
  obtain ⟨r, a1, b1, c1⟩ := check_eq [c] cals
  unfold portlaw2_ClockWarns level_Warnings portref2_WarningsOf
  simp only [a1, b1, Option.bind_some]
  by_cases hr : r = 0
  rotate_left
  · have : (r != 0) = true := by simpa using hr
    simp [this, equal_ints]
  have hok := c1 hr
  subst hr
  have hc := hok.clocks c (by simp)
  have hs := hok.sorted (c := c) (by simp)
  have hn := hok.ncal
  obtain ⟨b, r1, r2⟩ := runs_val hc
  simp only [bne_self_eq_false, Bool.false_eq_true, if_false]
  by_cases hl : (decide ((100 : Int) < (shares.length : Int))) = true
  · simp [hl, equal_ints]
  have hlen : shares.length ≤ 100 := by simp at hl; omega
  simp only [hl, Bool.false_eq_true, if_false]
  have e1 : ∀ x : Int, (!(level_within x 0 1000)) = ((decide (x < 0)) || (decide ((1000 : Int) < x))) := fun x => by
    rw [Bool.eq_iff_iff]
    simp [level_within, ← Int.not_le]
  simp only [e1]
  rw [rangeB_any]
  cases hany : shares.any (fun x47 => (decide (x47 < 0)) || (decide ((1000 : Int) < x47))) with
  | true => simp [Lp.andThen, equal_ints]
  | false =>
    simp only [Bool.false_eq_true, if_false, Option.bind_some, Lp.andThen_fin, r1, r2]
    cases b with
    | false => simp [equal_ints]
    | true =>
      have hin : ∀ s ∈ shares, 0 ≤ s ∧ s ≤ 1000 := fun s hs => by
        rw [List.any_eq_false] at hany
        have := hany s hs
        simp at this
        omega
      simp only [Bool.not_true, Bool.false_eq_true, if_false, meter_val cals (by omega), Option.bind_some]
      have key := rangeB_sim (R := List Int × Int) (b := fun k66 s74 => Option.bind (idx shares (k66 : Int)) fun x89 => Option.bind (if (decide ((0 : Int) < (w64 (Int.tdiv (w64 ((w64 (x89 * c.minutes)) + 99)) 100)))) = true then Option.bind (level_counted c cals (w64 ((w64 (Int.tdiv (w64 ((w64 (x89 * c.minutes)) + 99)) 100)) - 1))) fun x107 => Option.bind (if ((!x107.2) || (decide ((3000000 : Int) < (w64 (x107.1 + 1))))) = true then some (-1) else some (w64 (x107.1 + 1))) fun s114 => some s114 else some c.start) fun s96 => Option.bind (appendL 17592186044416 s74 ([s96] : List Int)) fun x129 => some (.nx x129))
        (b' := fun k76 s84 => Option.bind (idx shares (k76 : Int)) fun x99 => Option.bind (portref2_meter_first ⟨cals⟩ c (w64 (Int.tdiv (w64 ((w64 (x99 * c.minutes)) + 99)) 100))) fun x107 => Option.bind (if (decide ((3000000 : Int) < x107)) = true then some (-1) else some x107) fun s113 => Option.bind (appendL 17592186044416 s84 ([s113] : List Int)) fun x126 => some (.nx x126)) shares.length (fun _ => True) (fun k s s' => s = s' ∧ s.length = k) (s := ([] : List Int)) (s' := []) ⟨rfl, rfl⟩ (by
          rintro k s s' hk ⟨rfl, hsl⟩
          have hx := List.getElem?_eq_getElem hk
          have hmem := List.getElem_mem hk
          generalize shares[k] = x at hx hmem
          obtain ⟨g0, g1⟩ := hin x hmem
          obtain ⟨q, w1, w2⟩ := warn_same hc hs x g0 g1
          simp only [idx_nat, hx, Option.bind_some]
          obtain ⟨y, y1, y2⟩ := Option.bind_eq_some_iff.1 w1
          obtain ⟨z, z1, z2⟩ := Option.bind_eq_some_iff.1 w2
          obtain ⟨u, u1, u2⟩ := Option.bind_eq_some_iff.1 z2
          cases y2
          cases u2
          have ha : appendL 17592186044416 s [q] = some (s ++ [q]) := by
            unfold appendL
            rw [if_pos (by simp; omega)]
          refine .inr ⟨s ++ [q], s ++ [q], ?_, ?_, rfl, by simp [hsl]⟩
          · rw [y1]; simp [ha]
          · rw [z1]; simp only [Option.bind_some]; rw [u1]; simp [ha])
      rcases key with ⟨r, h1, h2, _⟩ | ⟨t, t', h1, h2, rfl, _⟩
      · rw [h1, h2]
        simp [Lp.andThen, equal_ints]
      · rw [h1, h2]
        simp [Lp.andThen, equal_ints]
end Go.Proofs.Ytpfoimbklbkcpaa.M
