/-
  The moments that show a local time: the program's parts and the reference's walk give the same list.
-/
import Derived.Test.YtiblhdhpiicdiaaDoorCalReadsCalZone2
namespace Go.Proofs.YtiblhdhpiicdiaaDoor.M
open Go Go.Pu
set_option linter.unusedSimpArgs false
set_option linter.unusedVariables false

def prt (z : cal_Zone) (k : Nat) : cal_part := ⟨fr z k, fr z (k + 1), ofs z k⟩

theorem parts_val (z : cal_Zone) (h60 : z.changes.length ≤ 60) : cal_Zone_parts z = some ((List.range (z.changes.length + 1)).map (prt z)) := by
  unfold cal_Zone_parts
  obtain ⟨t, h, rfl⟩ := rangeB_inv (R := List cal_part) (b := fun k24 s32 => Option.bind (idx z.changes (k24 : Int)) fun x47 => Option.bind (idx s32 (w64 ((s32.length : Int) - 1))) fun x61 => Option.bind (setI s32 (w64 ((s32.length : Int) - 1)) ({ (x61 : cal_part) with to_ := x47.at_ })) fun x67 => Option.bind (appendL 5864062014805 x67 ([(⟨x47.at_, 3000001, x47.offset⟩ : cal_part)] : List cal_part)) fun x78 => some (.nx x78)) z.changes.length
    (fun k s => s = (List.range k).map (prt z) ++ [⟨fr z k, 3000001, ofs z k⟩]) (s := [(⟨0, 3000001, z.offset⟩ : cal_part)]) rfl (by
      rintro k _ hk rfl
      have hc : z.changes[k]? = some z.changes[k] := List.getElem?_eq_getElem hk
      rw [idx_lt _ _ hk]
      generalize z.changes[k] = c at hc
      have hlen : (((List.range k).map (prt z) ++ [(⟨fr z k, 3000001, ofs z k⟩ : cal_part)]).length : Int) - 1 = (k : Int) := by simp
      have hw : w64 ((((List.range k).map (prt z) ++ [(⟨fr z k, 3000001, ofs z k⟩ : cal_part)]).length : Int) - 1) = (k : Int) := by rw [hlen]; exact w64_id (by omega) (by omega)
      rw [hw, idx_nat]
      have hg : ((List.range k).map (prt z) ++ [(⟨fr z k, 3000001, ofs z k⟩ : cal_part)])[k]? = some ⟨fr z k, 3000001, ofs z k⟩ := by
        rw [List.getElem?_append_right (by simp)]
        simp
      rw [hg]
      have hs : setI ((List.range k).map (prt z) ++ [(⟨fr z k, 3000001, ofs z k⟩ : cal_part)]) (k : Int) (⟨fr z k, c.at_, ofs z k⟩ : cal_part) = some ((List.range k).map (prt z) ++ [(⟨fr z k, c.at_, ofs z k⟩ : cal_part)]) := by
        rw [setI, if_pos ⟨by omega, by simp⟩]
        congr 1
        rw [Int.toNat_natCast, List.set_append_right _ _ (by simp)]
        simp
      simp only [Option.bind_some, hs]
      have ha : appendL 5864062014805 ((List.range k).map (prt z) ++ [(⟨fr z k, c.at_, ofs z k⟩ : cal_part)]) [(⟨c.at_, 3000001, c.offset⟩ : cal_part)] = some (((List.range k).map (prt z) ++ [(⟨fr z k, c.at_, ofs z k⟩ : cal_part)]) ++ [(⟨c.at_, 3000001, c.offset⟩ : cal_part)]) := by
        rw [appendL, if_pos (by simp; omega)]
      rw [ha]
      refine ⟨_, rfl, ?_⟩
      have e1 : fr z (k + 1) = c.at_ := by rw [fr, hc]
      have e2 : ofs z (k + 1) = c.offset := by rw [ofs, hc]
      rw [List.range_succ, List.map_append, e1, e2]
      simp [prt, e1])
  rw [h]
  simp only [Option.bind_some, Lp.andThen_fin]
  congr 1
  rw [List.range_succ, List.map_append]
  simp [prt, fr_last]

/-- the moments below m that show as L -/
def Sol (z : cal_Zone) (L : Int) : Nat → List Int
  | 0 => []
  | m + 1 => if (m : Int) + off z m = L then Sol z L m ++ [(m : Int)] else Sol z L m

theorem sol_len (z : cal_Zone) (L : Int) (m : Nat) : (Sol z L m).length ≤ m := by
  induction m with
  | zero => simp [Sol]
  | succ m ih => rw [Sol]; split <;> (try simp only [List.length_append, List.length_singleton]) <;> omega
theorem sol_none (z : cal_Zone) (L : Int) (a : Nat) : ∀ d, (∀ m : Nat, a ≤ m → m < a + d → (m : Int) + off z m ≠ L) → Sol z L (a + d) = Sol z L a
  | 0, _ => rfl
  | d + 1, h => by
    rw [← Nat.add_assoc, Sol, if_neg (h (a + d) (by omega) (by omega))]
    exact sol_none z L a d fun m h1 h2 => h m h1 (by omega)
theorem sol_part (z : cal_Zone) (L o : Int) (a : Nat) : ∀ d, (∀ m : Nat, a ≤ m → m < a + d → off z m = o) → Sol z L (a + d) = Sol z L a ++ (if (a : Int) ≤ L - o ∧ L - o < ((a + d : Nat) : Int) then [L - o] else [])
  | 0, _ => by rw [if_neg (by omega)]; simp
  | d + 1, h => by
    rw [← Nat.add_assoc, Sol, sol_part z L o a d (fun m h1 h2 => h m h1 (by omega)), h (a + d) (by omega) (by omega)]
    by_cases he : ((a + d : Nat) : Int) + o = L
    · rw [if_pos he, if_neg (by omega), if_pos (by omega), List.append_nil]
      congr 2
      omega
    · rw [if_neg he]
      congr 1
      by_cases h1 : (a : Int) ≤ L - o ∧ L - o < ((a + d : Nat) : Int)
      · rw [if_pos h1, if_pos (by omega)]
      · rw [if_neg h1, if_neg (by omega)]

theorem shown_loop {z : cal_Zone} (hz : ZoneOk z) (h60 : z.changes.length ≤ 60) (L : Int) (hL : -5000 ≤ L ∧ L ≤ 4000000) :
    rangeB (R := List Int × Int) (fun k37 s45 => Option.bind (Option.bind (idx ((List.range (z.changes.length + 1)).map (prt z)) (k37 : Int)) fun x70 => Option.bind (if ((decide (x70.from_ ≤ (w64 (L - x70.offset)))) && (decide ((w64 (L - x70.offset)) < x70.to_))) = true then Option.bind (appendL 17592186044416 s45 ([w64 (L - x70.offset)] : List Int)) fun x105 => some x105 else some s45) fun s90 => some s90) fun s61 => some (.nx s61)) ((List.range (z.changes.length + 1)).map (prt z)).length 0 ([] : (List Int)) = some (.fin (Sol z L 3000001)) := by
  rw [show ((List.range (z.changes.length + 1)).map (prt z)).length = z.changes.length + 1 by simp]
  obtain ⟨t, h, rfl, _⟩ := rangeB_inv (R := List Int × Int) (b := fun k37 s45 => Option.bind (Option.bind (idx ((List.range (z.changes.length + 1)).map (prt z)) (k37 : Int)) fun x70 => Option.bind (if ((decide (x70.from_ ≤ (w64 (L - x70.offset)))) && (decide ((w64 (L - x70.offset)) < x70.to_))) = true then Option.bind (appendL 17592186044416 s45 ([w64 (L - x70.offset)] : List Int)) fun x105 => some x105 else some s45) fun s90 => some s90) fun s61 => some (.nx s61)) (z.changes.length + 1)
    (fun k s => s = Sol z L (fr z k).toNat ∧ s.length ≤ k) (s := []) ⟨rfl, by simp⟩ (by
      rintro k _ hk ⟨rfl, hlen⟩
      have hg : idx ((List.range (z.changes.length + 1)).map (prt z)) (k : Int) = some (prt z k) := by rw [idx_nat]; simp [hk]
      rw [hg]
      have hb := ofs_bound hz k
      have hw : w64 (L - ofs z k) = L - ofs z k := w64_id (by omega) (by omega)
      have hlt := fr_lt hz k (by omega)
      have hr0 := fr_range hz k (by omega)
      have hr1 := fr_range hz (k + 1) (by omega)
      have hp := sol_part z L (ofs z k) (fr z k).toNat ((fr z (k + 1)).toNat - (fr z k).toNat) (fun m h1 h2 => off_part hz k (by omega) m (by omega) (by omega))
      rw [show (fr z k).toNat + ((fr z (k + 1)).toNat - (fr z k).toNat) = (fr z (k + 1)).toNat by omega, Int.toNat_of_nonneg hr0.1, Int.toNat_of_nonneg hr1.1] at hp
      simp only [Option.bind_some, prt, hw]
      by_cases hc : fr z k ≤ L - ofs z k ∧ L - ofs z k < fr z (k + 1)
      · rw [if_pos hc] at hp
        have ha : appendL 17592186044416 (Sol z L (fr z k).toNat) [L - ofs z k] = some (Sol z L (fr z k).toNat ++ [L - ofs z k]) := by rw [appendL, if_pos (by simp; omega)]
        simp only [hc.1, hc.2, decide_true, Bool.and_self, if_true, ha, Option.bind_some]
        exact ⟨_, rfl, hp.symm, by simp; omega⟩
      · rw [if_neg hc, List.append_nil] at hp
        have e : (decide (fr z k ≤ L - ofs z k) && decide (L - ofs z k < fr z (k + 1))) = false := by
          rw [← Bool.not_eq_true]; simpa using hc
        simp only [e, Bool.false_eq_true, if_false, Option.bind_some]
        exact ⟨_, rfl, hp.symm, by omega⟩)
  rw [h, fr_last]
  rfl

theorem shownIn_loop {z : cal_Zone} (hz : ZoneOk z) (L lo hi : Int) (hL : -5000 ≤ L ∧ L ≤ 4000000) (hlo : lo = if 0 < L - 1440 then L - 1440 else 0) (hhi : hi = if L + 1440 < 3000000 then L + 1440 else 3000000) :
    ∃ b : Int, whileB (R := List Int) (fun s20 : List Int × Int => if (decide (s20.2 ≤ hi)) = true then Option.bind (Option.bind (portref2_OffsetIn z s20.2) fun x47 => Option.bind (if ((w64 (s20.2 + x47)) == L) = true then Option.bind (appendL 17592186044416 s20.1 ([s20.2] : List Int)) fun x67 => some x67 else some s20.1) fun s52 => some s52) fun s35 => some (.nx (s35, w64 (s20.2 + 1))) else some (.bk (s20.1, s20.2))) (([] : (List Int)), lo) = some (.fin (Sol z L 3000001, b)) := by
  obtain ⟨o, ho, b, rfl⟩ := whileB_spec (R := List Int) (body := fun s20 : List Int × Int => if (decide (s20.2 ≤ hi)) = true then Option.bind (Option.bind (portref2_OffsetIn z s20.2) fun x47 => Option.bind (if ((w64 (s20.2 + x47)) == L) = true then Option.bind (appendL 17592186044416 s20.1 ([s20.2] : List Int)) fun x67 => some x67 else some s20.1) fun s52 => some s52) fun s35 => some (.nx (s35, w64 (s20.2 + 1))) else some (.bk (s20.1, s20.2)))
    (fun s => ∃ m : Nat, s = (Sol z L m, (m : Int)) ∧ lo ≤ (m : Int) ∧ m ≤ 4000000 ∧ ((m : Int) = lo ∨ (m : Int) ≤ hi + 1)) (fun s => 4000001 - s.2.toNat) (fun o => ∃ b, o = .fin (Sol z L 3000001, b)) (s := ([], lo))
    ⟨lo.toNat, by
      have : Sol z L (0 + lo.toNat) = [] := sol_none z L 0 lo.toNat fun m _ h => by
        have := off_bound hz m
        split at hlo <;> omega
      rw [Nat.zero_add] at this
      rw [this, Int.toNat_of_nonneg (by split at hlo <;> omega)], by omega, by split at hlo <;> omega, .inl (by split at hlo <;> omega)⟩ (by
      rintro _ ⟨m, rfl, h1, h2, h9⟩
      have hb := off_bound hz m
      by_cases hm : (m : Int) ≤ hi
      · have hm3 : m ≤ 3000000 := by split at hhi <;> omega
        have hw : w64 ((m : Int) + off z m) = (m : Int) + off z m := w64_id (by omega) (by omega)
        have hw2 : w64 ((m : Int) + 1) = ((m + 1 : Nat) : Int) := by rw [w64_id (by omega) (by omega)]; rfl
        have hlen := sol_len z L m
        have ha : appendL 17592186044416 (Sol z L m) [(m : Int)] = some (Sol z L m ++ [(m : Int)]) := by rw [appendL, if_pos (by simp; omega)]
        simp only [hm, decide_true, if_true, offsetIn_val, Option.bind_some, hw, hw2, ha]
        by_cases he : (m : Int) + off z m = L
        · have : ((m : Int) + off z m == L) = true := by simpa using he
          simp only [this, if_true, Option.bind_some]
          exact ⟨_, rfl, ⟨m + 1, by rw [Sol, if_pos he], by omega, by omega, .inr (by omega)⟩, by simp only; omega⟩
        · have : ((m : Int) + off z m == L) = false := by simpa using he
          simp only [this, Bool.false_eq_true, if_false, Option.bind_some]
          exact ⟨_, rfl, ⟨m + 1, by rw [Sol, if_neg he], by omega, by omega, .inr (by omega)⟩, by simp only; omega⟩
      · simp only [hm, decide_false, Bool.false_eq_true, if_false]
        refine ⟨_, rfl, (m : Int), ?_⟩
        have : Sol z L m = Sol z L 3000001 := by
          rcases Nat.lt_or_ge 3000001 m with h3 | h3
          · have e1 : Sol z L (0 + m) = [] := sol_none z L 0 m fun j _ h => by
              have := off_bound hz j
              split at hlo <;> split at hhi <;> omega
            have e2 : Sol z L (0 + 3000001) = [] := sol_none z L 0 3000001 fun j _ h => by
              have := off_bound hz j
              split at hlo <;> split at hhi <;> omega
            rw [Nat.zero_add] at e1 e2
            rw [e1, e2]
          · have := sol_none z L m (3000001 - m) fun j h4 h5 => by
              have := off_bound hz j
              split at hhi <;> omega
            rw [show m + (3000001 - m) = 3000001 by omega] at this
            exact this.symm
        rw [this])
  exact ⟨b, ho⟩


end Go.Proofs.YtiblhdhpiicdiaaDoor.M
