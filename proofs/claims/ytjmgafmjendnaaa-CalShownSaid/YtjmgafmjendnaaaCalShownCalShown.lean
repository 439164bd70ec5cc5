/-
  Shown, Earliest and their references agree: plain part.
-/
import Derived.Test.YtjmgafmjendnaaaCalShownCalZone2
namespace Go.Proofs.Ytjmgafmjendnaaa.M
open Go Go.Pu

theorem equal_self (l : List Int) : slices_Equal_Lint_int l l = some true := by
  unfold slices_Equal_Lint_int
  simp only [bne_self_eq_false, Bool.false_eq_true, if_false]
  obtain ⟨t, h, _⟩ := rangeB_inv (R := Bool) (b := fun k22 (_ : Unit) => Option.bind (idx l (k22 : Int)) fun x36 => Option.bind (idx l (k22 : Int)) fun x40 => if (x36 != x40) = true then some (.rt false) else some (.nx ())) l.length (fun _ _ => True) (s := ()) trivial
    (fun k s hk _ => by rw [idx_lt _ _ hk]; simp)
  rw [h]
  rfl

def prt (z : cal_Zone) (k : Nat) : cal_part := ⟨fr z k, fr z (k + 1), ofs z k⟩

theorem parts_val (z : cal_Zone) (h60 : z.changes.length ≤ 60) : cal_Zone_parts z = some ((List.range (z.changes.length + 1)).map (prt z)) := by
  unfold cal_Zone_parts
  obtain ⟨t, h, rfl⟩ := rangeB_inv (R := List cal_part) (b := fun k24 s32 => Option.bind (idx z.changes (k24 : Int)) fun x47 => Option.bind (idx s32 (w64 ((s32.length : Int) - 1))) fun x61 => Option.bind (setI s32 (w64 ((s32.length : Int) - 1)) ({ (x61 : cal_part) with to_ := x47.at_ })) fun x67 => Option.bind (appendL 5864062014805 x67 ([(⟨x47.at_, 3000001, x47.offset⟩ : cal_part)] : List cal_part)) fun x78 => some (.nx x78)) z.changes.length
    (fun k s => s = (List.range k).map (prt z) ++ [⟨fr z k, 3000001, ofs z k⟩]) (s := [(⟨0, 3000001, z.offset⟩ : cal_part)]) rfl (by
      rintro k _ hk rfl
      have hc : z.changes[k]? = some z.changes[k] := List.getElem?_eq_getElem hk
      rw [idx_lt _ _ hk]
      generalize z.changes[k] = c at hc
      have hlen : (((List.range k).map (prt z) ++ [(⟨fr z k, 3000001, ofs z k⟩ : cal_part)]).length : Int) - 1 = (k : Int) := by simp
      have hw : w64 ((((List.range k).map (prt z) ++ [(⟨fr z k, 3000001, ofs z k⟩ : cal_part)]).length : Int) - 1) = (k : Int) := by rw [hlen]; exact w64_id (by omega) (by omega)
      rw [hw, idx_nat]
      have hg : ((List.range k).map (prt z) ++ [(⟨fr z k, 3000001, ofs z k⟩ : cal_part)])[k]? = some ⟨fr z k, 3000001, ofs z k⟩ := by
        rw [List.getElem?_append_right (by simp)]
        simp
      rw [hg]
      have hs : setI ((List.range k).map (prt z) ++ [(⟨fr z k, 3000001, ofs z k⟩ : cal_part)]) (k : Int) (⟨fr z k, c.at_, ofs z k⟩ : cal_part) = some ((List.range k).map (prt z) ++ [(⟨fr z k, c.at_, ofs z k⟩ : cal_part)]) := by
        rw [setI, if_pos ⟨by omega, by simp⟩]
        congr 1
        rw [Int.toNat_natCast, List.set_append_right _ _ (by simp)]
        simp
      simp only [Option.bind_some, hs]
      have ha : appendL 5864062014805 ((List.range k).map (prt z) ++ [(⟨fr z k, c.at_, ofs z k⟩ : cal_part)]) [(⟨c.at_, 3000001, c.offset⟩ : cal_part)] = some (((List.range k).map (prt z) ++ [(⟨fr z k, c.at_, ofs z k⟩ : cal_part)]) ++ [(⟨c.at_, 3000001, c.offset⟩ : cal_part)]) := by
        rw [appendL, if_pos (by simp; omega)]
      rw [ha]
      refine ⟨_, rfl, ?_⟩
      have e1 : fr z (k + 1) = c.at_ := by rw [fr, hc]
      have e2 : ofs z (k + 1) = c.offset := by rw [ofs, hc]
      rw [List.range_succ, List.map_append, e1, e2]
      simp [prt, e1])
  rw [h]
  simp only [Option.bind_some, Lp.andThen_fin]
  congr 1
  rw [List.range_succ, List.map_append]
  simp [prt, fr_last]

/-- the moments below m that show as L -/
def Sol (z : cal_Zone) (L : Int) : Nat → List Int
  | 0 => []
  | m + 1 => if (m : Int) + off z m = L then Sol z L m ++ [(m : Int)] else Sol z L m

theorem sol_len (z : cal_Zone) (L : Int) (m : Nat) : (Sol z L m).length ≤ m := by
  induction m with
  | zero => simp [Sol]
  | succ m ih => rw [Sol]; split <;> (try simp only [List.length_append, List.length_singleton]) <;> omega
theorem sol_none (z : cal_Zone) (L : Int) (a : Nat) : ∀ d, (∀ m : Nat, a ≤ m → m < a + d → (m : Int) + off z m ≠ L) → Sol z L (a + d) = Sol z L a
  | 0, _ => rfl
  | d + 1, h => by
    rw [← Nat.add_assoc, Sol, if_neg (h (a + d) (by omega) (by omega))]
    exact sol_none z L a d fun m h1 h2 => h m h1 (by omega)
theorem sol_part (z : cal_Zone) (L o : Int) (a : Nat) : ∀ d, (∀ m : Nat, a ≤ m → m < a + d → off z m = o) → Sol z L (a + d) = Sol z L a ++ (if (a : Int) ≤ L - o ∧ L - o < ((a + d : Nat) : Int) then [L - o] else [])
  | 0, _ => by rw [if_neg (by omega)]; simp
  | d + 1, h => by
    rw [← Nat.add_assoc, Sol, sol_part z L o a d (fun m h1 h2 => h m h1 (by omega)), h (a + d) (by omega) (by omega)]
    by_cases he : ((a + d : Nat) : Int) + o = L
    · rw [if_pos he, if_neg (by omega), if_pos (by omega), List.append_nil]
      congr 2
      omega
    · rw [if_neg he]
      congr 1
      by_cases h1 : (a : Int) ≤ L - o ∧ L - o < ((a + d : Nat) : Int)
      · rw [if_pos h1, if_pos (by omega)]
      · rw [if_neg h1, if_neg (by omega)]

theorem shown_loop {z : cal_Zone} (hz : ZoneOk z) (h60 : z.changes.length ≤ 60) (L : Int) (hL : -5000 ≤ L ∧ L ≤ 4000000) :
    rangeB (R := List Int × Int) (fun k37 s45 => Option.bind (Option.bind (idx ((List.range (z.changes.length + 1)).map (prt z)) (k37 : Int)) fun x70 => Option.bind (if ((decide (x70.from_ ≤ (w64 (L - x70.offset)))) && (decide ((w64 (L - x70.offset)) < x70.to_))) = true then Option.bind (appendL 17592186044416 s45 ([w64 (L - x70.offset)] : List Int)) fun x105 => some x105 else some s45) fun s90 => some s90) fun s61 => some (.nx s61)) ((List.range (z.changes.length + 1)).map (prt z)).length 0 ([] : (List Int)) = some (.fin (Sol z L 3000001)) := by
  rw [show ((List.range (z.changes.length + 1)).map (prt z)).length = z.changes.length + 1 by simp]
  obtain ⟨t, h, rfl, _⟩ := rangeB_inv (R := List Int × Int) (b := fun k37 s45 => Option.bind (Option.bind (idx ((List.range (z.changes.length + 1)).map (prt z)) (k37 : Int)) fun x70 => Option.bind (if ((decide (x70.from_ ≤ (w64 (L - x70.offset)))) && (decide ((w64 (L - x70.offset)) < x70.to_))) = true then Option.bind (appendL 17592186044416 s45 ([w64 (L - x70.offset)] : List Int)) fun x105 => some x105 else some s45) fun s90 => some s90) fun s61 => some (.nx s61)) (z.changes.length + 1)
    (fun k s => s = Sol z L (fr z k).toNat ∧ s.length ≤ k) (s := []) ⟨rfl, by simp⟩ (by
      rintro k _ hk ⟨rfl, hlen⟩
      have hg : idx ((List.range (z.changes.length + 1)).map (prt z)) (k : Int) = some (prt z k) := by rw [idx_nat]; simp [hk]
      rw [hg]
      have hb := ofs_bound hz k
      have hw : w64 (L - ofs z k) = L - ofs z k := w64_id (by omega) (by omega)
      have hlt := fr_lt hz k (by omega)
      have hr0 := fr_range hz k (by omega)
      have hr1 := fr_range hz (k + 1) (by omega)
      have hp := sol_part z L (ofs z k) (fr z k).toNat ((fr z (k + 1)).toNat - (fr z k).toNat) (fun m h1 h2 => off_part hz k (by omega) m (by omega) (by omega))
      rw [show (fr z k).toNat + ((fr z (k + 1)).toNat - (fr z k).toNat) = (fr z (k + 1)).toNat by omega, Int.toNat_of_nonneg hr0.1, Int.toNat_of_nonneg hr1.1] at hp
      simp only [Option.bind_some, prt, hw]
      by_cases hc : fr z k ≤ L - ofs z k ∧ L - ofs z k < fr z (k + 1)
      · rw [if_pos hc] at hp
        have ha : appendL 17592186044416 (Sol z L (fr z k).toNat) [L - ofs z k] = some (Sol z L (fr z k).toNat ++ [L - ofs z k]) := by rw [appendL, if_pos (by simp; omega)]
        simp only [hc.1, hc.2, decide_true, Bool.and_self, if_true, ha, Option.bind_some]
        exact ⟨_, rfl, hp.symm, by simp; omega⟩
      · rw [if_neg hc, List.append_nil] at hp
        have e : (decide (fr z k ≤ L - ofs z k) && decide (L - ofs z k < fr z (k + 1))) = false := by
          rw [← Bool.not_eq_true]; simpa using hc
        simp only [e, Bool.false_eq_true, if_false, Option.bind_some]
        exact ⟨_, rfl, hp.symm, by omega⟩)
  rw [h, fr_last]
  rfl

theorem shownIn_loop {z : cal_Zone} (hz : ZoneOk z) (L lo hi : Int) (hL : -5000 ≤ L ∧ L ≤ 4000000) (hlo : lo = if 0 < L - 1440 then L - 1440 else 0) (hhi : hi = if L + 1440 < 3000000 then L + 1440 else 3000000) :
    ∃ b : Int, whileB (R := List Int) (fun s20 : List Int × Int => if (decide (s20.2 ≤ hi)) = true then Option.bind (Option.bind (portref2_OffsetIn z s20.2) fun x47 => Option.bind (if ((w64 (s20.2 + x47)) == L) = true then Option.bind (appendL 17592186044416 s20.1 ([s20.2] : List Int)) fun x67 => some x67 else some s20.1) fun s52 => some s52) fun s35 => some (.nx (s35, w64 (s20.2 + 1))) else some (.bk (s20.1, s20.2))) (([] : (List Int)), lo) = some (.fin (Sol z L 3000001, b)) := by
  obtain ⟨o, ho, b, rfl⟩ := whileB_spec (R := List Int) (body := fun s20 : List Int × Int => if (decide (s20.2 ≤ hi)) = true then Option.bind (Option.bind (portref2_OffsetIn z s20.2) fun x47 => Option.bind (if ((w64 (s20.2 + x47)) == L) = true then Option.bind (appendL 17592186044416 s20.1 ([s20.2] : List Int)) fun x67 => some x67 else some s20.1) fun s52 => some s52) fun s35 => some (.nx (s35, w64 (s20.2 + 1))) else some (.bk (s20.1, s20.2)))
    (fun s => ∃ m : Nat, s = (Sol z L m, (m : Int)) ∧ lo ≤ (m : Int) ∧ m ≤ 4000000 ∧ ((m : Int) = lo ∨ (m : Int) ≤ hi + 1)) (fun s => 4000001 - s.2.toNat) (fun o => ∃ b, o = .fin (Sol z L 3000001, b)) (s := ([], lo))
    ⟨lo.toNat, by
      have : Sol z L (0 + lo.toNat) = [] := sol_none z L 0 lo.toNat fun m _ h => by
        have := off_bound hz m
        split at hlo <;> omega
      rw [Nat.zero_add] at this
      rw [this, Int.toNat_of_nonneg (by split at hlo <;> omega)], by omega, by split at hlo <;> omega, .inl (by split at hlo <;> omega)⟩ (by
      rintro _ ⟨m, rfl, h1, h2, h9⟩
      have hb := off_bound hz m
      by_cases hm : (m : Int) ≤ hi
      · have hm3 : m ≤ 3000000 := by split at hhi <;> omega
        have hw : w64 ((m : Int) + off z m) = (m : Int) + off z m := w64_id (by omega) (by omega)
        have hw2 : w64 ((m : Int) + 1) = ((m + 1 : Nat) : Int) := by rw [w64_id (by omega) (by omega)]; rfl
        have hlen := sol_len z L m
        have ha : appendL 17592186044416 (Sol z L m) [(m : Int)] = some (Sol z L m ++ [(m : Int)]) := by rw [appendL, if_pos (by simp; omega)]
        simp only [hm, decide_true, if_true, offsetIn_val, Option.bind_some, hw, hw2, ha]
        by_cases he : (m : Int) + off z m = L
        · have : ((m : Int) + off z m == L) = true := by simpa using he
          simp only [this, if_true, Option.bind_some]
          exact ⟨_, rfl, ⟨m + 1, by rw [Sol, if_pos he], by omega, by omega, .inr (by omega)⟩, by simp only; omega⟩
        · have : ((m : Int) + off z m == L) = false := by simpa using he
          simp only [this, Bool.false_eq_true, if_false, Option.bind_some]
          exact ⟨_, rfl, ⟨m + 1, by rw [Sol, if_neg he], by omega, by omega, .inr (by omega)⟩, by simp only; omega⟩
      · simp only [hm, decide_false, Bool.false_eq_true, if_false]
        refine ⟨_, rfl, (m : Int), ?_⟩
        have : Sol z L m = Sol z L 3000001 := by
          rcases Nat.lt_or_ge 3000001 m with h3 | h3
          · have e1 : Sol z L (0 + m) = [] := sol_none z L 0 m fun j _ h => by
              have := off_bound hz j
              split at hlo <;> split at hhi <;> omega
            have e2 : Sol z L (0 + 3000001) = [] := sol_none z L 0 3000001 fun j _ h => by
              have := off_bound hz j
              split at hlo <;> split at hhi <;> omega
            rw [Nat.zero_add] at e1 e2
            rw [e1, e2]
          · have := sol_none z L m (3000001 - m) fun j h4 h5 => by
              have := off_bound hz j
              split at hhi <;> omega
            rw [show m + (3000001 - m) = 3000001 by omega] at this
            exact this.symm
        rw [this])
  exact ⟨b, ho⟩

/-- v is the first moment that shows L or later -/
def First (z : cal_Zone) (L v : Int) : Prop := 0 ≤ v ∧ v ≤ 3000000 ∧ L ≤ v + off z v ∧ ∀ m, 0 ≤ m → m < v → m + off z m < L
def NoFirst (z : cal_Zone) (L : Int) : Prop := ∀ m, 0 ≤ m → m ≤ 3000000 → m + off z m < L

theorem earliest_loop {z : cal_Zone} (hz : ZoneOk z) (h60 : z.changes.length ≤ 60) (L : Int) (hL : -5000 ≤ L ∧ L ≤ 4000000) :
    ∃ o, rangeB (R := Int × Int) (fun k37 (_ : Unit) => Option.bind (idx ((List.range (z.changes.length + 1)).map (prt z)) (k37 : Int)) fun x56 => if (decide ((if x56.from_ < w64 (L - x56.offset) then w64 (L - x56.offset) else x56.from_) < x56.to_)) = true then some (.rt ((if x56.from_ < w64 (L - x56.offset) then w64 (L - x56.offset) else x56.from_), 0)) else some (.nx ())) ((List.range (z.changes.length + 1)).map (prt z)).length 0 () = some o ∧ ((∃ v, o = .rt (v, 0) ∧ First z L v) ∨ (o = .fin () ∧ NoFirst z L)) := by
  rw [show ((List.range (z.changes.length + 1)).map (prt z)).length = z.changes.length + 1 by simp]
  refine rangeB_spec (R := Int × Int) (z.changes.length + 1) (fun k _ => ∀ m, 0 ≤ m → m < fr z k → m + off z m < L) _ (fun m h1 h2 => by simp only [fr] at h2; omega) ?_ ?_
  · intro k _ hk hI
    have hg : idx ((List.range (z.changes.length + 1)).map (prt z)) (k : Int) = some (prt z k) := by rw [idx_nat]; simp [hk]
    rw [hg]
    have hb := ofs_bound hz k
    have hw : w64 (L - ofs z k) = L - ofs z k := w64_id (by omega) (by omega)
    have hlt := fr_lt hz k (by omega)
    have hr0 := fr_range hz k (by omega)
    have hr1 := fr_range hz (k + 1) (by omega)
    have hp : ∀ m, fr z k ≤ m → m < fr z (k + 1) → off z m = ofs z k := fun m h1 h2 => off_part hz k (by omega) m h1 h2
    simp only [Option.bind_some, prt, hw]
    generalize hv : (if fr z k < L - ofs z k then L - ofs z k else fr z k) = v
    have hvs : fr z k ≤ v ∧ L ≤ v + ofs z k ∧ (v = fr z k ∨ v = L - ofs z k) := by split at hv <;> omega
    by_cases hc : v < fr z (k + 1)
    · simp only [hc, decide_true, if_true]
      refine ⟨_, rfl, .inl ⟨v, rfl, by omega, by omega, by rw [hp v hvs.1 hc]; omega, fun m h1 h2 => ?_⟩⟩
      rcases Int.lt_or_le m (fr z k) with h3 | h3
      · exact hI m h1 h3
      · rw [hp m h3 (by omega)]
        omega
    · simp only [hc, decide_false, Bool.false_eq_true, if_false]
      refine ⟨_, rfl, fun m h1 h2 => ?_⟩
      rcases Int.lt_or_le m (fr z k) with h3 | h3
      · exact hI m h1 h3
      · rw [hp m h3 h2]
        omega
  · intro s hI
    refine .inr ⟨rfl, fun m h1 h2 => hI m h1 ?_⟩
    rw [fr_last]
    omega

theorem earliestIn_loop {z : cal_Zone} (hz : ZoneOk z) (L lo : Int) (hL : -5000 ≤ L ∧ L ≤ 4000000) (hlo : lo = if 0 < L - 1440 then L - 1440 else 0) :
    ∃ o, whileB (R := Int) (fun s18 => if (decide (s18 ≤ 3000000)) = true then Option.bind (portref2_OffsetIn z s18) fun x33 => if (decide (L ≤ (w64 (s18 + x33)))) = true then some (.rt s18) else some (.nx (w64 (s18 + 1))) else some (.bk s18)) lo = some o ∧ ((∃ v, o = .rt v ∧ First z L v) ∨ ((∃ b, o = .fin b) ∧ NoFirst z L)) := by
  refine whileB_spec (R := Int) (fun s => lo ≤ s ∧ s ≤ 4000000 ∧ ∀ m, 0 ≤ m → m < s → m + off z m < L) (fun s => (4000001 - s).toNat) _ ⟨Int.le_refl _, by split at hlo <;> omega, fun m h1 h2 => by
    have := off_bound hz m
    split at hlo <;> omega⟩ ?_
  rintro s ⟨h1, h2, hI⟩
  have hb := off_bound hz s
  have hw : w64 (s + off z s) = s + off z s := w64_id (by omega) (by split at hlo <;> omega)
  have hs0 : 0 ≤ s := by split at hlo <;> omega
  by_cases hs : s ≤ 3000000
  · simp only [hs, decide_true, if_true, offsetIn_val, Option.bind_some, hw]
    by_cases hc : L ≤ s + off z s
    · simp only [hc, decide_true, if_true]
      exact ⟨_, rfl, .inl ⟨s, rfl, hs0, hs, hc, hI⟩⟩
    · simp only [hc, decide_false, Bool.false_eq_true, if_false]
      rw [w64_id (by omega) (by omega)]
      refine ⟨_, rfl, ⟨by omega, by omega, fun m h3 h4 => ?_⟩, by omega⟩
      by_cases he : m = s
      · subst he; omega
      · exact hI m h3 (by omega)
  · simp only [hs, decide_false, Bool.false_eq_true, if_false]
    exact ⟨_, rfl, .inr ⟨⟨s, rfl⟩, fun m h3 h4 => hI m h3 (by omega)⟩⟩

theorem shown_true (z : cal_Zone) (day minute : Int) : portlaw2_CalShown z day minute = some true := by
  obtain ⟨r, e1, e2, hok⟩ := zone_eq z
  unfold portlaw2_CalShown cal_Shown cal_Earliest portref2_LocalFault
  simp only [e1, e2, or_two, Option.bind_some]
  by_cases hr : r = 0
  rotate_left
  · have : (r != 0) = true := by simpa using hr
    simp only [hr, ne_eq, not_false_eq_true, if_true, this, Option.bind_some]
    simp
  have hz := hok hr
  have h60 : z.changes.length ≤ 60 := by
    have := e1
    rw [hr] at this
    unfold cal_CheckZone at this
    by_cases h1 : (!(cal_within z.offset (-1440) 1440)) = true
    · simp [h1] at this
    · by_cases h : (60 : Int) < (z.changes.length : Int)
      · simp [h1, h] at this
      · omega
  subst hr
  simp only [ne_eq, not_true, if_false, bne_self_eq_false, Bool.false_eq_true]
  by_cases hl : (-1 ≤ day ∧ day ≤ 2084) ∧ 0 ≤ minute ∧ minute ≤ 1439
  rotate_left
  · have h1 : cal_localTime day minute = 2 := by
      unfold cal_localTime
      rw [if_pos]
      simp [cal_within]
      omega
    have h2 : ((((decide (day < (-1))) || (decide ((2084 : Int) < day))) || (decide (minute < 0))) || (decide ((1440 : Int) ≤ minute))) = true := by
      simp
      omega
    simp [h1, h2]
  have h1 : cal_localTime day minute = 0 := by
    unfold cal_localTime
    rw [if_neg]
    simp [cal_within]
    omega
  have h2 : ((((decide (day < (-1))) || (decide ((2084 : Int) < day))) || (decide (minute < 0))) || (decide ((1440 : Int) ≤ minute))) = false := by
    simp
    omega
  have hw1 : w64 (day * 1440) = day * 1440 := w64_id (by omega) (by omega)
  have hw2 : w64 (day * 1440 + minute) = day * 1440 + minute := w64_id (by omega) (by omega)
  simp only [h1, h2, bne_self_eq_false, Bool.false_eq_true, if_false, parts_val z h60, Option.bind_some, hw1, hw2]
  have hL : -5000 ≤ day * 1440 + minute ∧ day * 1440 + minute ≤ 4000000 := by omega
  unfold portref2_EarliestIn portref2_ShownIn
  simp only [hw1, hw2]
  generalize day * 1440 + minute = L at hL
  rw [w64_id (n := L - 1440) (by omega) (by omega), w64_id (n := L + 1440) (by omega) (by omega)]
  obtain ⟨o, q1, q2⟩ := earliest_loop hz h60 L hL
  obtain ⟨p, q3, q4⟩ := earliestIn_loop hz L _ hL rfl
  obtain ⟨b, q5⟩ := shownIn_loop hz L _ _ hL rfl rfl
  rw [shown_loop hz h60 L hL, q1, q3, q5]
  simp only [Option.bind_some, Lp.andThen_fin]
  rcases q2 with ⟨v, rfl, hv⟩ | ⟨rfl, hv⟩
  · rcases q4 with ⟨u, rfl, hu⟩ | ⟨⟨b', rfl⟩, hu⟩
    · obtain ⟨v1, v2, v3, v4⟩ := hv
      obtain ⟨u1, u2, u3, u4⟩ := hu
      have : v = u := by
        rcases Int.lt_trichotomy v u with h | h | h
        · have := u4 v v1 h; omega
        · exact h
        · have := v4 u u1 h; omega
      subst this
      have hn : ¬ v < 0 := by omega
      simp [Lp.andThen, hn, equal_self]
    · obtain ⟨v1, v2, v3, v4⟩ := hv
      have := hu v v1 v2
      omega
  · rcases q4 with ⟨u, rfl, hu⟩ | ⟨⟨b', rfl⟩, hu⟩
    · obtain ⟨u1, u2, u3, u4⟩ := hu
      have := hv u u1 u2
      omega
    · simp [Lp.andThen, equal_self]
end Go.Proofs.Ytjmgafmjendnaaa.M
