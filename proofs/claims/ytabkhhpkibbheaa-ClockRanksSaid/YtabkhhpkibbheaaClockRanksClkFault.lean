import Derived.Test.YtabkhhpkibbheaaClockRanksClkX
namespace Go.Proofs.Ytabkhhpkibbheaa.M
open Go Go.Pu
set_option linter.unusedSimpArgs false
set_option linter.unusedVariables false
structure PieceOk (c : level_Clock) (k : Nat) (p : level_Piece) : Prop where
 from_ : c.start ≤ p.from_ ∧ p.from_ ≤ 3000000
 cal : 0 ≤ p.calendar ∧ p.calendar ≤ 19
 to_ : p.to_ = -1 ∨ (p.from_ < p.to_ ∧ p.to_ ≤ 3000000)
 open_ : p.to_ = -1 → k + 1 = c.pieces.length ∧ c.stop = -1
 stop : c.stop ≠ -1 → p.to_ ≤ c.stop
structure ClockOk (c : level_Clock) : Prop where
 minutes : 0 ≤ c.minutes ∧ c.minutes ≤ 100000
 start : 0 ≤ c.start ∧ c.start ≤ 3000000
 stop : c.stop = -1 ∨ (c.start ≤ c.stop ∧ c.stop ≤ 3000000)
 ends : 0 ≤ c.end_ ∧ c.end_ ≤ 2
 both : c.stop = -1 ↔ c.end_ = 0
 len : c.pieces.length ≤ 6000
 pieces : ∀ (k : Nat) (p : level_Piece), c.pieces[k]? = some p → PieceOk c k p
 order : ∀ (k : Nat) (p q : level_Piece), c.pieces[k]? = some p → c.pieces[k + 1]? = some q → p.to_ ≤ q.from_
theorem piece_same (c : level_Clock) (p : level_Piece) : (((!(level_within p.from_ c.start 3000000)) || (!(level_within p.calendar 0 19))) || ((p.to_ != (-1)) && (!(level_within p.to_ (w64 (p.from_ + 1)) 3000000)))) = true ↔ ¬ ((c.start ≤ p.from_ ∧ p.from_ ≤ 3000000) ∧ (0 ≤ p.calendar ∧ p.calendar ≤ 19) ∧ (p.to_ = -1 ∨ (w64 (p.from_ + 1) ≤ p.to_ ∧ p.to_ ≤ 3000000))) := by
 simp [level_within]
 omega
theorem clock_loop {R : Type} (c : level_Clock) (h0 : 0 ≤ c.start) (hlen : c.pieces.length ≤ 6000) (r2 r1 r5 : R) (bad : level_Piece → Bool)
  (hbad : ∀ p : level_Piece, bad p = true ↔ ¬ ((c.start ≤ p.from_ ∧ p.from_ ≤ 3000000) ∧ (0 ≤ p.calendar ∧ p.calendar ≤ 19) ∧ (p.to_ = -1 ∨ (p.from_ < p.to_ ∧ p.to_ ≤ 3000000)))) :
  ∃ o, rangeB (fun k45 (_ : Unit) => Option.bind (idx c.pieces (k45 : Int)) fun x64 => if bad x64 = true then some (.rt r2) else Option.bind (if ((x64.to_ == (-1)) && ((decide ((k45 : Int) < (w64 ((c.pieces.length : Int) - 1)))) || (c.stop != (-1)))) = true then some ((x64.to_ == (-1)) && ((decide ((k45 : Int) < (w64 ((c.pieces.length : Int) - 1)))) || (c.stop != (-1)))) else some ((c.stop != (-1)) && (decide (c.stop < x64.to_)))) fun s101 => if s101 = true then some (.rt r1) else Option.bind (if (decide ((0 : Int) < (k45 : Int))) = true then (Option.bind (idx c.pieces (w64 ((k45 : Int) - 1))) fun x122 => some (decide (x64.from_ < x122.to_))) else (some false)) fun s116 => if s116 = true then some (.rt r5) else some (.nx ())) c.pieces.length 0 () = some o ∧
   ((∃ r, o = .rt r ∧ (r = r2 ∨ r = r1 ∨ r = r5)) ∨ (o = .fin () ∧ (∀ (k : Nat) (p : level_Piece), c.pieces[k]? = some p → PieceOk c k p) ∧ ∀ (k : Nat) (p q : level_Piece), c.pieces[k]? = some p → c.pieces[k + 1]? = some q → p.to_ ≤ q.from_)) := by
 refine rangeB_spec c.pieces.length (fun k _ => (∀ (j : Nat) (p : level_Piece), j < k → c.pieces[j]? = some p → PieceOk c j p) ∧ ∀ (j : Nat) (p q : level_Piece), j + 1 < k → c.pieces[j]? = some p → c.pieces[j + 1]? = some q → p.to_ ≤ q.from_) _ ⟨fun j _ hj => absurd hj (by omega), fun j _ _ hj => absurd hj (by omega)⟩ ?_ ?_
 ·rintro k _ hk ⟨i1, i2⟩
  have hx := List.getElem?_eq_getElem hk
  generalize c.pieces[k] = p at hx
  rw [idx_nat, hx, Option.bind_some]
  by_cases h1 : bad p = true
  ·rw [if_pos h1]
   exact ⟨_, rfl, .inl ⟨_, rfl, .inl rfl⟩⟩
  rw [if_neg h1]
  have hb := Classical.not_not.1 fun h => h1 ((hbad p).2 h)
  have hw : w64 ((c.pieces.length : Int) - 1) = (c.pieces.length : Int) - 1 := w64_id (by omega) (by omega)
  by_cases h2 : ((p.to_ == (-1)) && ((decide ((k : Int) < (w64 ((c.pieces.length : Int) - 1)))) || (c.stop != (-1)))) = true
  ·rw [if_pos h2, Option.bind_some, if_pos h2]
   exact ⟨_, rfl, .inl ⟨_, rfl, .inr (.inl rfl)⟩⟩
  rw [if_neg h2, Option.bind_some]
  by_cases h3 : ((c.stop != (-1)) && (decide (c.stop < p.to_))) = true
  ·rw [if_pos h3]
   exact ⟨_, rfl, .inl ⟨_, rfl, .inr (.inl rfl)⟩⟩
  rw [if_neg h3]
  have hp : PieceOk c k p := by
   rw [hw] at h2
   simp at h2 h3
   refine ⟨hb.1, hb.2.1, hb.2.2, fun h => ?_, fun h => ?_⟩
   ·have := h2 h
    omega
   ·exact h3 h
  have next : (∀ q, 0 < k → c.pieces[k - 1]? = some q → q.to_ ≤ p.from_) → (∀ (j : Nat) (p : level_Piece), j < k + 1 → c.pieces[j]? = some p → PieceOk c j p) ∧ ∀ (j : Nat) (p q : level_Piece), j + 1 < k + 1 → c.pieces[j]? = some p → c.pieces[j + 1]? = some q → p.to_ ≤ q.from_ := fun hq => by
   refine ⟨fun j p' hj hp' => ?_, fun j p' q' hj hp' hq' => ?_⟩
   ·by_cases hjk : j = k
    ·subst hjk
     rw [hx] at hp'
     cases hp'
     exact hp
    ·exact i1 j p' (by omega) hp'
   ·by_cases hjk : j + 1 = k
    ·subst hjk
     rw [hx] at hq'
     cases hq'
     exact hq p' (by omega) (by simpa using hp')
    ·exact i2 j p' q' (by omega) hp' hq'
  by_cases hk0 : (0 : Int) < (k : Int)
  ·have hprev : c.pieces[k - 1]? = some c.pieces[k - 1] := List.getElem?_eq_getElem (by omega)
   have hw1 : w64 ((k : Int) - 1) = ((k - 1 : Nat) : Int) := by rw [w64_id (by omega) (by omega)]; omega
   simp only [hk0, decide_true, if_true, hw1, idx_nat, hprev, Option.bind_some]
   by_cases h4 : p.from_ < c.pieces[k - 1].to_
   ·simp only [h4, decide_true, if_true]
    exact ⟨_, rfl, .inl ⟨_, rfl, .inr (.inr rfl)⟩⟩
   ·simp only [h4, decide_false, Bool.false_eq_true, if_false]
    refine ⟨_, rfl, next fun q _ hq => ?_⟩
    rw [hprev] at hq
    cases hq
    omega
  ·simp only [hk0, decide_false, Bool.false_eq_true, if_false, Option.bind_some]
   exact ⟨_, rfl, next fun q hq _ => by omega⟩
 ·rintro _ ⟨i1, i2⟩
  refine .inr ⟨rfl, fun k p hp => i1 k p (List.getElem?_eq_some_iff.1 hp).1 hp, fun k p q hp hq => i2 k p q (List.getElem?_eq_some_iff.1 hq).1 hp hq⟩
theorem clock_eq (c : level_Clock) : ∃ r, level_CheckClock c = some r ∧ portref2_ClockFault c = some r ∧ (r = 0 → ClockOk c) := by
 unfold level_CheckClock portref2_ClockFault
 have e1 : ((((((((((decide (c.kind < 1)) || (decide ((3 : Int) < c.kind))) || (decide (c.level < 0))) || (decide ((20 : Int) ≤ c.level))) || (decide (c.minutes < 0))) || (decide ((100000 : Int) < c.minutes))) || (!(portref2_IsMoment c.start))) || ((c.stop != (-1)) && ((!(portref2_IsMoment c.stop)) || (decide (c.stop < c.start))))) || (decide (c.end_ < 0))) || (decide ((2 : Int) < c.end_))) = true ↔ ((((((!(level_within c.kind 1 3)) || (!(level_within c.level 0 19))) || (!(level_within c.minutes 0 100000))) || (!(level_within c.start 0 3000000))) || ((c.stop != (-1)) && (!(level_within c.stop c.start 3000000)))) || (!(level_within c.end_ 0 2))) = true := by
  simp [level_within, portref2_IsMoment]
  omega
 by_cases h1 : ((((((!(level_within c.kind 1 3)) || (!(level_within c.level 0 19))) || (!(level_within c.minutes 0 100000))) || (!(level_within c.start 0 3000000))) || ((c.stop != (-1)) && (!(level_within c.stop c.start 3000000)))) || (!(level_within c.end_ 0 2))) = true
 ·rw [if_pos h1, if_pos (e1.2 h1)]
  exact ⟨_, rfl, rfl, fun h => by cases h⟩
 rw [if_neg h1, if_neg fun h => h1 (e1.1 h)]
 by_cases h2 : (!((c.stop == (-1)) == (c.end_ == 0))) = true
 ·rw [if_pos h2, if_pos h2]
  exact ⟨_, rfl, rfl, fun h => by cases h⟩
 rw [if_neg h2, if_neg h2]
 by_cases h3 : (decide ((6000 : Int) < (c.pieces.length : Int))) = true
 ·rw [if_pos h3, if_pos h3]
  exact ⟨_, rfl, rfl, fun h => by cases h⟩
 rw [if_neg h3, if_neg h3]
 have hlen : c.pieces.length ≤ 6000 := by
  simp at h3
  omega
 have hb : (0 ≤ c.minutes ∧ c.minutes ≤ 100000) ∧ (0 ≤ c.start ∧ c.start ≤ 3000000) ∧ (c.stop = -1 ∨ (c.start ≤ c.stop ∧ c.stop ≤ 3000000)) ∧ (0 ≤ c.end_ ∧ c.end_ ≤ 2) := by
  simp [level_within] at h1
  omega
 have hbo : c.stop = -1 ↔ c.end_ = 0 := by
  simp only [Bool.not_eq_true', Bool.not_eq_false] at h2
  have h4 : ((c.stop == (-1)) = (c.end_ == 0)) := by
   cases hq : (c.stop == (-1)) <;> cases hr : (c.end_ == 0) <;> simp_all
  constructor
  ·intro h
   rw [h] at h4
   simpa using h4.symm
  ·intro h
   rw [h] at h4
   simpa using h4
 obtain ⟨o1, ho1, hp1⟩ := clock_loop (R := Int) c hb.2.1.1 hlen 2 1 5 (fun x64 => (((!(level_within x64.from_ c.start 3000000)) || (!(level_within x64.calendar 0 19))) || ((x64.to_ != (-1)) && (!(level_within x64.to_ (w64 (x64.from_ + 1)) 3000000))))) (fun p => by
  rw [piece_same]
  by_cases hf : c.start ≤ p.from_ ∧ p.from_ ≤ 3000000
  ·rw [w64_id (n := p.from_ + 1) (by omega) (by omega)]
   omega
  ·simp only [hf, false_and])
 obtain ⟨o2, ho2, hp2⟩ := clock_loop (R := Int) c hb.2.1.1 hlen 2 1 5 (fun x79 => (((((decide (x79.from_ < c.start)) || (!(portref2_IsMoment x79.from_))) || (decide (x79.calendar < 0))) || (decide ((20 : Int) ≤ x79.calendar))) || ((x79.to_ != (-1)) && ((!(portref2_IsMoment x79.to_)) || (decide (x79.to_ ≤ x79.from_)))))) (fun p => by
  simp [portref2_IsMoment]
  omega)
 have hsame : o1 = o2 := by
  have hbody : ∀ (b1 b2 : level_Piece → Bool), (∀ p, b1 p = b2 p) → b1 = b2 := fun _ _ h => funext h
  have e := hbody (fun x64 => (((!(level_within x64.from_ c.start 3000000)) || (!(level_within x64.calendar 0 19))) || ((x64.to_ != (-1)) && (!(level_within x64.to_ (w64 (x64.from_ + 1)) 3000000))))) (fun x79 => (((((decide (x79.from_ < c.start)) || (!(portref2_IsMoment x79.from_))) || (decide (x79.calendar < 0))) || (decide ((20 : Int) ≤ x79.calendar))) || ((x79.to_ != (-1)) && ((!(portref2_IsMoment x79.to_)) || (decide (x79.to_ ≤ x79.from_)))))) (fun p => by
   rw [Bool.eq_iff_iff, piece_same]
   by_cases hf : c.start ≤ p.from_ ∧ p.from_ ≤ 3000000
   ·rw [w64_id (n := p.from_ + 1) (by omega) (by omega)]
    simp [portref2_IsMoment]
    omega
   ·simp only [hf, false_and, not_false_eq_true, true_iff]
    simp [portref2_IsMoment]
    omega)
  have h5 := congrFun e
  simp only [h5] at ho1
  exact Option.some.inj (ho1.symm.trans ho2)
 subst hsame
 rw [ho1, ho2]
 rcases hp1 with ⟨r, rfl, hr⟩ | ⟨rfl, q1, q2⟩
 ·exact ⟨r, rfl, rfl, fun h => by rcases hr with rfl | rfl | rfl <;> cases h⟩
 ·exact ⟨0, rfl, rfl, fun _ => ⟨hb.1, hb.2.1, hb.2.2.1, hb.2.2.2, hbo, hlen, q1, q2⟩⟩
theorem fault_loop {α : Type} (l : List α) (f g : α → Option Int) (Q : α → Prop) (h : ∀ x ∈ l, ∃ r, f x = some r ∧ g x = some r ∧ (r = 0 → Q x)) :
  (∃ r, rangeB (R := Int) (fun k (_ : Unit) => Option.bind (idx l (k : Int)) fun x => Option.bind (f x) fun r => if (r != 0) = true then some (.rt r) else some (.nx ())) l.length 0 () = some (.rt r) ∧ rangeB (R := Int) (fun k (_ : Unit) => Option.bind (idx l (k : Int)) fun x => Option.bind (g x) fun r => if (r != 0) = true then some (.rt r) else some (.nx ())) l.length 0 () = some (.rt r) ∧ r ≠ 0) ∨
   (rangeB (R := Int) (fun k (_ : Unit) => Option.bind (idx l (k : Int)) fun x => Option.bind (f x) fun r => if (r != 0) = true then some (.rt r) else some (.nx ())) l.length 0 () = some (.fin ()) ∧ rangeB (R := Int) (fun k (_ : Unit) => Option.bind (idx l (k : Int)) fun x => Option.bind (g x) fun r => if (r != 0) = true then some (.rt r) else some (.nx ())) l.length 0 () = some (.fin ()) ∧ ∀ x ∈ l, Q x) := by
 have key := rangeB_sim (b := fun k (_ : Unit) => Option.bind (idx l (k : Int)) fun x => Option.bind (f x) fun r => if (r != 0) = true then some (.rt r) else some (.nx ())) (b' := fun k (_ : Unit) => Option.bind (idx l (k : Int)) fun x => Option.bind (g x) fun r => if (r != 0) = true then some (.rt r) else some (.nx ())) l.length (fun r : Int => r ≠ 0) (fun k _ _ => ∀ (j : Nat) (x : α), j < k → l[j]? = some x → Q x) (s := ()) (s' := ()) (fun j _ hj => absurd hj (by omega)) (by
  rintro k _ _ hk hI
  have hx := List.getElem?_eq_getElem hk
  obtain ⟨r, h1, h2, h3⟩ := h l[k] (List.getElem_mem hk)
  simp only [idx_nat, hx, h1, h2, Option.bind_some]
  by_cases hr : r = 0
  ·subst hr
   refine .inr ⟨(), (), by simp, by simp, fun j x hj hjx => ?_⟩
   by_cases hjk : j = k
   ·subst hjk
    rw [hx] at hjx
    cases hjx
    exact h3 rfl
   ·exact hI j x (by omega) hjx
  ·have : (r != 0) = true := by simpa using hr
   exact .inl ⟨r, by simp [this], by simp [this], hr⟩)
 rcases key with ⟨r, h1, h2, h3⟩ | ⟨_, _, h1, h2, h3⟩
 ·exact .inl ⟨r, h1, h2, h3⟩
 ·exact .inr ⟨h1, h2, fun x hx => by
   obtain ⟨j, hj⟩ := List.mem_iff_getElem?.1 hx
   exact h3 j x (List.getElem?_eq_some_iff.1 hj).1 hj⟩
theorem contains_val (s : List level_Piece) (f : level_Piece → Option Bool) (q : level_Piece → Bool) (hf : ∀ x ∈ s, f x = some (q x)) : slices_ContainsFunc_Llevel_Piece_level_Piece s f = some (s.any q) := by
 unfold slices_ContainsFunc_Llevel_Piece_level_Piece slices_IndexFunc_Llevel_Piece_level_Piece
 have e : rangeB (R := Int) (fun k6 (_ : Unit) => Option.bind (idx s (k6 : Int)) fun x25 => Option.bind (f x25) fun x30 => if x30 = true then some (.rt (k6 : Int)) else some (.nx ())) s.length 0 () = rangeB (R := Int) (fun k (_ : Unit) => Option.bind (idx s (k : Int)) fun x => Option.bind (some (q x)) fun b => if b = true then some (.rt (k : Int)) else some (.nx ())) s.length 0 () := by
  have h1 := rangeB_forL s (R := Int) (fun k x (_ : Unit) => if q x = true then some (.rt (k : Int)) else some (.nx ())) (fun k6 (_ : Unit) => Option.bind (idx s (k6 : Int)) fun x25 => Option.bind (f x25) fun x30 => if x30 = true then some (.rt (k6 : Int)) else some (.nx ())) (fun k _ x hx => by simp [idx_nat, hx, hf x (List.mem_of_getElem? hx)]) ()
  have h2 := rangeB_forL s (R := Int) (fun k x (_ : Unit) => if q x = true then some (.rt (k : Int)) else some (.nx ())) (fun k (_ : Unit) => Option.bind (idx s (k : Int)) fun x => Option.bind (some (q x)) fun b => if b = true then some (.rt (k : Int)) else some (.nx ())) (fun k _ x hx => by simp [idx_nat, hx]) ()
  rw [h1, h2]
 rw [e, rangeB_index]
 have hd := findIdx_any s q
 cases hf2 : s.findIdx? q with
 | none => rw [hf2] at hd; simp [Lp.andThen] at hd ⊢; simpa using hd
 | some i => rw [hf2] at hd; simp [Lp.andThen] at hd ⊢; simpa using hd
structure AllOk (l : List level_Clock) (cals : List cal_Calendar) : Prop where
 len : l.length ≤ 8000
 clocks : ∀ c ∈ l, ClockOk c
 ncal : cals.length ≤ 20
 calOk : ∀ k ∈ cals, CalOk k ∧ cal_CheckCalendar k = some 0
 inside : ∀ c ∈ l, ∀ p ∈ c.pieces, p.calendar < cals.length
theorem check_eq (l : List level_Clock) (cals : List cal_Calendar) : ∃ r, level_check l cals = some r ∧ portref2_clocksFault l cals = some r ∧ (r = 0 → AllOk l cals) := by
 unfold level_check portref2_clocksFault
 by_cases h1 : (decide ((8000 : Int) < (l.length : Int))) = true
 ·rw [if_pos h1, if_pos h1]
  exact ⟨_, rfl, rfl, fun h => by cases h⟩
 rw [if_neg h1, if_neg h1]
 have hl : l.length ≤ 8000 := by simp at h1; omega
 rcases fault_loop l level_CheckClock portref2_ClockFault ClockOk (fun x _ => clock_eq x) with ⟨r, a1, a2, a3⟩ | ⟨a1, a2, a3⟩
 ·rw [a1, a2]
  exact ⟨r, rfl, rfl, fun h => absurd h a3⟩
 rw [a1, a2]
 simp only [Option.bind_some, Lp.andThen_fin]
 unfold portref2_CalsFault
 by_cases h2 : (decide ((20 : Int) < (cals.length : Int))) = true
 ·rw [if_pos h2, if_pos h2]
  exact ⟨4, rfl, rfl, fun h => by cases h⟩
 rw [if_neg h2, if_neg h2]
 have hn : cals.length ≤ 20 := by simp at h2; omega
 rcases fault_loop cals cal_CheckCalendar portref2_CalendarFault (fun k => CalOk k ∧ cal_CheckCalendar k = some 0) (fun x _ => by
  obtain ⟨r, b1, b2, b3⟩ := cal_eq x
  exact ⟨r, b1, b2, fun h => ⟨b3 h, by rw [b1, h]⟩⟩) with ⟨r, c1, c2, c3⟩ | ⟨c1, c2, c3⟩
 ·rw [c1, c2]
  have : (r != 0) = true := by simpa using c3
  simp only [Option.bind_some, Lp.andThen_rt, this, if_true]
  exact ⟨r, rfl, rfl, fun h => absurd h c3⟩
 rw [c1, c2]
 simp only [Option.bind_some, Lp.andThen_fin, bne_self_eq_false, Bool.false_eq_true, if_false]
 have e1 : ∀ x : level_Clock, slices_ContainsFunc_Llevel_Piece_level_Piece x.pieces (fun y182 => level_check_1 y182 cals) = some (x.pieces.any fun p => decide ((cals.length : Int) ≤ p.calendar)) := fun x => contains_val _ _ _ fun p _ => rfl
 have e2 : ∀ x : level_Clock, slices_ContainsFunc_Llevel_Piece_level_Piece x.pieces (fun y182 => portref2_clocksFault_1 y182 cals) = some (x.pieces.any fun p => decide ((cals.length : Int) ≤ p.calendar)) := fun x => contains_val _ _ _ fun p _ => rfl
 simp only [e1, e2, Option.bind_some]
 rw [rangeB_any]
 cases hany : l.any (fun x => x.pieces.any fun p => decide ((cals.length : Int) ≤ p.calendar)) with
 | true => exact ⟨7, rfl, rfl, fun h => by cases h⟩
 | false =>
  refine ⟨0, rfl, rfl, fun _ => ⟨hl, a3, hn, c3, fun c hc p hp => ?_⟩⟩
  rw [List.any_eq_false] at hany
  have h3 := hany c hc
  rw [Bool.not_eq_true, List.any_eq_false] at h3
  have h4 := h3 p hp
  simpa using h4
theorem sorted_of {cals : List cal_Calendar} {c : level_Clock} (hc : ClockOk c) (hcal : ∀ p ∈ c.pieces, ∃ k, idx cals p.calendar = some k ∧ CalOk k ∧ cal_CheckCalendar k = some 0) : SortedP cals c.start c.pieces := by
 have hpw : c.pieces.Pairwise fun p q => p.to_ ≠ -1 ∧ p.from_ < p.to_ ∧ p.to_ ≤ q.from_ := by
  refine chain_pairwise (fun a b d h1 h2 => ⟨h1.1, h1.2.1, by omega⟩) _ fun j p q hp hq => ?_
  have h1 := hc.pieces j p hp
  have h2 := hc.order j p q hp hq
  have hne : p.to_ ≠ -1 := fun h => by
   have h3 := (h1.open_ h).1
   have h4 := (List.getElem?_eq_some_iff.1 hq).1
   omega
  have h5 := h1.to_
  exact ⟨hne, by omega, h2⟩
 have hall : ∀ p ∈ c.pieces, (c.start ≤ p.from_ ∧ p.from_ ≤ 3000000) ∧ (p.to_ = -1 ∨ (p.from_ < p.to_ ∧ p.to_ ≤ 3000000)) ∧ ∃ k, idx cals p.calendar = some k ∧ CalOk k ∧ cal_CheckCalendar k = some 0 := fun p hp => by
  obtain ⟨j, hj⟩ := List.mem_iff_getElem?.1 hp
  have h1 := hc.pieces j p hj
  exact ⟨h1.from_, h1.to_, hcal p hp⟩
 have key : ∀ (l : List level_Piece) (lo : Int), (∀ p ∈ l, (lo ≤ p.from_ ∧ p.from_ ≤ 3000000) ∧ (p.to_ = -1 ∨ (p.from_ < p.to_ ∧ p.to_ ≤ 3000000)) ∧ ∃ k, idx cals p.calendar = some k ∧ CalOk k ∧ cal_CheckCalendar k = some 0) → l.Pairwise (fun p q => p.to_ ≠ -1 ∧ p.from_ < p.to_ ∧ p.to_ ≤ q.from_) → SortedP cals lo l := by
  intro l
  induction l with
  | nil => intro _ _ _; trivial
  | cons p l ih =>
   intro lo h hp
   obtain ⟨h1, h2, h3⟩ := h p (by simp)
   rw [List.pairwise_cons] at hp
   refine ⟨h1.1, h1.2, h2, h3, ih (endP p) (fun q hq => ?_) hp.2⟩
   obtain ⟨g1, g2, g3⟩ := h q (List.mem_cons_of_mem _ hq)
   have g4 := hp.1 q hq
   have : endP p = p.to_ := by unfold endP; rw [if_neg g4.1]
   exact ⟨⟨by omega, g1.2⟩, g2, g3⟩
 exact key _ _ hall hpw
theorem AllOk.sorted {l : List level_Clock} {cals : List cal_Calendar} (h : AllOk l cals) {c : level_Clock} (hc : c ∈ l) : SortedP cals c.start c.pieces := by
 refine sorted_of (h.clocks c hc) fun p hp => ?_
 obtain ⟨j, hj⟩ := List.mem_iff_getElem?.1 hp
 have h1 := (h.clocks c hc).pieces j p hj
 have h2 := h.inside c hc p hp
 obtain ⟨k, hk, _⟩ := idx_of (l := cals) h1.cal.1 h2
 exact ⟨k, hk, h.calOk k (idx_mem hk)⟩
end Go.Proofs.Ytabkhhpkibbheaa.M
