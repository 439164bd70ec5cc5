import Derived.Test.YtabkhhpkibbheaaClockRanksCalBase
namespace Go.Proofs.Ytabkhhpkibbheaa.M
open Go Go.Pu
set_option linter.unusedSimpArgs false
set_option linter.unusedVariables false
theorem chain_pairwise {α : Type} {R : α → α → Prop} (tr : ∀ a b c, R a b → R b c → R a c) : ∀ (l : List α), (∀ (j : Nat) (p s : α), l[j]? = some p → l[j + 1]? = some s → R p s) → l.Pairwise R
 | [], _ => .nil
 | [a], _ => by simp
 | a :: b :: l, h =>
  have ih := chain_pairwise tr (b :: l) fun j p s hp hs => h (j + 1) p s (by simpa using hp) (by simpa using hs)
  List.pairwise_cons.2 ⟨fun s hs => by
   have hab := h 0 a b rfl rfl
   rcases List.mem_cons.1 hs with rfl | hs
   ·exact hab
   ·exact tr _ _ _ hab ((List.pairwise_cons.1 ih).1 s hs), ih⟩
theorem floor7 (a : Int) (h : -4000000000 ≤ a) (h' : a ≤ 4000000000) : cal_floor a 7 = some (a / 7) := by
 have hd := tdiv_spec a 7 (by decide)
 have hq : quo a 7 = some (a.tdiv 7) := by rw [quo, if_neg (by decide), w64_id (by omega) (by omega)]
 have hr : rem a 7 = some (a.tmod 7) := by rw [rem, if_neg (by decide)]
 unfold cal_floor
 simp only [hq, hr, Option.bind_some]
 by_cases hn : a.tmod 7 < 0
 ·simp only [hn, decide_true, if_true, Option.bind_some]
  rw [w64_id (by omega) (by omega)]
  congr 1
  omega
 ·simp only [hn, decide_false, Bool.false_eq_true, if_false, Option.bind_some]
  congr 1
  omega
theorem floor1440 (a : Int) (h : -4000000000 ≤ a) (h' : a ≤ 4000000000) : cal_floor a 1440 = some (a / 1440) := by
 have hd := tdiv_spec a 1440 (by decide)
 have hq : quo a 1440 = some (a.tdiv 1440) := by rw [quo, if_neg (by decide), w64_id (by omega) (by omega)]
 have hr : rem a 1440 = some (a.tmod 1440) := by rw [rem, if_neg (by decide)]
 unfold cal_floor
 simp only [hq, hr, Option.bind_some]
 by_cases hn : a.tmod 1440 < 0
 ·simp only [hn, decide_true, if_true, Option.bind_some]
  rw [w64_id (by omega) (by omega)]
  congr 1
  omega
 ·simp only [hn, decide_false, Bool.false_eq_true, if_false, Option.bind_some]
  congr 1
  omega
theorem floorDiv7 (a : Int) (h : -4000000000 ≤ a) (h' : a ≤ 4000000000) : portref2_floorDiv a 7 = some (a / 7, a % 7) := by
 have hd := tdiv_spec a 7 (by decide)
 have hq : quo a 7 = some (a.tdiv 7) := by rw [quo, if_neg (by decide), w64_id (by omega) (by omega)]
 have hr : rem a 7 = some (a.tmod 7) := by rw [rem, if_neg (by decide)]
 unfold portref2_floorDiv
 simp only [hq, hr, Option.bind_some]
 by_cases hn : a.tmod 7 < 0
 ·simp only [hn, decide_true, if_true, Option.bind_some]
  rw [w64_id (by omega) (by omega), w64_id (by omega) (by omega)]
  congr 2 <;> omega
 ·simp only [hn, decide_false, Bool.false_eq_true, if_false, Option.bind_some]
  congr 2 <;> omega
theorem floorDiv1440 (a : Int) (h : -4000000000 ≤ a) (h' : a ≤ 4000000000) : portref2_floorDiv a 1440 = some (a / 1440, a % 1440) := by
 have hd := tdiv_spec a 1440 (by decide)
 have hq : quo a 1440 = some (a.tdiv 1440) := by rw [quo, if_neg (by decide), w64_id (by omega) (by omega)]
 have hr : rem a 1440 = some (a.tmod 1440) := by rw [rem, if_neg (by decide)]
 unfold portref2_floorDiv
 simp only [hq, hr, Option.bind_some]
 by_cases hn : a.tmod 1440 < 0
 ·simp only [hn, decide_true, if_true, Option.bind_some]
  rw [w64_id (by omega) (by omega), w64_id (by omega) (by omega)]
  congr 2 <;> omega
 ·simp only [hn, decide_false, Bool.false_eq_true, if_false, Option.bind_some]
  congr 2 <;> omega
def daySh (c : cal_Calendar) (day : Int) : List cal_Shift :=
 match c.specials.find? (fun x => x.day == day) with
 | some x => x.shifts
 | none => (c.week.filter fun s => s.day == day % 7).map fun s => ⟨0, s.from_, s.to_⟩
theorem shLe_trans (a b c : cal_Shift) (h1 : ShLe a b) (h2 : ShLe b c) : ShLe a c := by
 unfold ShLe at *
 omega
theorem shs_sorted {l : List cal_Shift} (h : ShsOk l) : l.Pairwise ShLe := chain_pairwise shLe_trans l h.2
theorem daySh_ok {c : cal_Calendar} (hc : CalOk c) (day : Int) : (∀ s ∈ daySh c day, ShOk s) ∧ (daySh c day).Pairwise (fun p s => p.from_ ≤ s.from_) ∧ (daySh c day).length ≤ 60 := by
 unfold daySh
 cases hf : c.specials.find? (fun x => x.day == day) with
 | some x =>
  simp only
  have hm := List.mem_of_find?_eq_some hf
  obtain ⟨j, hj⟩ := List.mem_iff_getElem?.1 hm
  obtain ⟨_, _, h3, h4, h5⟩ := hc.special j x hj
  refine ⟨fun s hs => ?_, ?_, by omega⟩
  ·obtain ⟨i, hi⟩ := List.mem_iff_getElem?.1 hs
   exact h4.1 i s hi
  ·refine (List.Pairwise.imp_of_mem ?_ (shs_sorted h4))
   intro a b ha hb hab
   obtain ⟨i, hi⟩ := List.mem_iff_getElem?.1 ha
   obtain ⟨k, hk⟩ := List.mem_iff_getElem?.1 hb
   have e1 := h5 i a hi
   have e2 := h5 k b hk
   unfold ShLe at hab
   omega
 | none =>
  simp only
  refine ⟨fun s hs => ?_, ?_, ?_⟩
  ·obtain ⟨x, hx, rfl⟩ := List.mem_map.1 hs
   obtain ⟨i, hi⟩ := List.mem_iff_getElem?.1 (List.mem_filter.1 hx).1
   exact hc.week.1 i x hi
  ·refine List.pairwise_map.2 ?_
   refine List.Pairwise.imp_of_mem ?_ ((shs_sorted hc.week).filter _)
   intro a b ha hb hab
   have e1 := (List.mem_filter.1 ha).2
   have e2 := (List.mem_filter.1 hb).2
   simp only [beq_iff_eq] at e1 e2
   unfold ShLe at hab
   show a.from_ ≤ b.from_
   omega
  ·rw [List.length_map]
   exact Nat.le_trans (List.length_filter_le _ _) hc.weeks
theorem forL_find {α R : Type} (p : α → Bool) (f : α → R) (l : List α) (k : Nat) :
  forL (fun _ x (_ : Unit) => if p x = true then some (.rt (f x)) else some (.nx ())) l k () = some ((l.find? p).elim (.fin ()) fun x => .rt (f x)) := by
 induction l generalizing k with
 | nil => rfl
 | cons x l ih =>
  rw [forL, List.find?_cons]
  cases hp : p x
  ·simp [ih]
  ·simp
theorem week_loop {R : Type} (l : List cal_Shift) (h60 : l.length ≤ 60) (day wd : Int) (body : Nat → List cal_Shift → Option (Ctl (List cal_Shift) R))
  (hb : ∀ k s x, l[k]? = some x → body k s = Option.bind (Option.bind (if (x.day == wd) = true then Option.bind (appendL 5864062014805 s ([(⟨0, x.from_, x.to_⟩ : cal_Shift)] : List cal_Shift)) fun x143 => some x143 else some s) fun s126 => some s126) fun s102 => some (.nx s102)) :
  rangeB body l.length 0 [] = some (.fin ((l.filter fun s => s.day == wd).map fun s => ⟨0, s.from_, s.to_⟩)) := by
 obtain ⟨t, h, rfl⟩ := rangeB_inv (b := body) l.length (fun k s => s = ((l.take k).filter fun s => s.day == wd).map fun s => ⟨0, s.from_, s.to_⟩) (s := []) (by simp) (by
  rintro k _ hk rfl
  have hc : l[k]? = some l[k] := List.getElem?_eq_getElem hk
  rw [hb k _ _ hc]
  generalize l[k] = x at hc
  have hlen : (((l.take k).filter fun s => s.day == wd).map fun s => (⟨0, s.from_, s.to_⟩ : cal_Shift)).length ≤ 60 := by
   rw [List.length_map]
   refine Nat.le_trans (List.length_filter_le _ _) ?_
   rw [List.length_take]
   omega
  rw [List.take_add_one, hc, List.filter_append, List.map_append]
  generalize (((l.take k).filter fun s => s.day == wd).map fun s => (⟨0, s.from_, s.to_⟩ : cal_Shift)) = acc at hlen
  by_cases hw : (x.day == wd) = true
  ·rw [if_pos hw, appendL, if_pos (by simp; omega)]
   exact ⟨_, rfl, by simp [hw]⟩
  ·rw [if_neg hw]
   exact ⟨_, rfl, by simp [hw]⟩)
 rw [h, List.take_of_length_le (Nat.le_refl _)]
theorem shiftsIn_val {c : cal_Calendar} (hc : CalOk c) (day : Int) (h : -100000 ≤ day) (h' : day ≤ 100000) : portref2_ShiftsIn c day = some (daySh c day) := by
 unfold portref2_ShiftsIn
 have e : rangeB (R := List cal_Shift) (fun k21 (_ : Unit) => Option.bind (idx c.specials (k21 : Int)) fun x40 => if (x40.day == day) = true then some (.rt x40.shifts) else some (.nx ())) c.specials.length 0 () = some ((c.specials.find? (fun x => x.day == day)).elim (.fin ()) fun x => .rt x.shifts) := by
  refine (rangeB_forL c.specials (fun _ (x : cal_Special) (_ : Unit) => if (x.day == day) = true then some (.rt x.shifts) else some (.nx ())) _ ?_ ()).trans (forL_find (fun x : cal_Special => x.day == day) (fun x => x.shifts) c.specials 0)
  intro k s x hx
  simp [idx_nat, hx]
 rw [e]
 unfold daySh
 cases hf : c.specials.find? (fun x => x.day == day) with
 | some x => rfl
 | none =>
  simp only [Option.elim_none, Option.bind_some, Lp.andThen_fin, floorDiv7 day (by omega) (by omega)]
  rw [week_loop c.week hc.weeks day (day % 7) _ (by
   intro k s x hx
   simp only [idx_nat, hx, Option.bind_some])]
  rfl
theorem mid_val (n : Nat) (hn : n ≤ 1000) : Option.bind (shr .u64 (IntKind.wrap .u64 (w64 (n : Int))) 1) (fun x => some (IntKind.wrap .i64 x)) = some ((n / 2 : Nat) : Int) := by
 have h1 : w64 (n : Int) = (n : Int) := w64_id (by omega) (by omega)
 have h2 : IntKind.wrap .u64 (n : Int) = (n : Int) := by
  simp only [IntKind.wrap, IntKind.bits, IntKind.signed]
  simp
  omega
 have h3 : IntKind.wrap .i64 ((n : Int).fdiv 2) = ((n / 2 : Nat) : Int) := by
  have : (n : Int).fdiv 2 = ((n / 2 : Nat) : Int) := by
   rw [Int.fdiv_eq_ediv_of_nonneg _ (by decide)]
   omega
  rw [this]
  exact w64_id (by omega) (by omega)
 rw [h1, h2, shr, if_neg (by decide)]
 have e : (2 : Int) ^ (min (1 : Int).toNat IntKind.u64.bits) = 2 := by decide
 rw [e]
 simp only [Option.bind_some, h3]
theorem search_val {l : List cal_Special} (hl : l.length ≤ 200) (hs : l.Pairwise fun x y => x.day < y.day) (day : Int) :
  ∃ a : Nat, a ≤ l.length ∧ slices_BinarySearchFunc_Lcal_Special_cal_Special_int l day (fun y18 y19 => cal_Calendar_shiftsOf_1 y18 y19) = some ((a : Int), decide (∃ x, l[a]? = some x ∧ x.day = day)) ∧ (∀ q x, q < a → l[q]? = some x → x.day < day) ∧ ∀ q x, a ≤ q → l[q]? = some x → day ≤ x.day := by
 have hp : ∀ (p q : Nat) (x y : cal_Special), p < q → l[p]? = some x → l[q]? = some y → x.day < y.day := fun p q x y hpq hx hy => by
  obtain ⟨h1, rfl⟩ := List.getElem?_eq_some_iff.1 hx
  obtain ⟨h2, rfl⟩ := List.getElem?_eq_some_iff.1 hy
  exact List.pairwise_iff_getElem.1 hs p q h1 h2 hpq
 unfold slices_BinarySearchFunc_Lcal_Special_cal_Special_int
 obtain ⟨o, ho, a, rfl, ha, hlo, hhi⟩ := whileB_spec (R := Int × Bool) (body := fun s12 : Int × Int => if (decide (s12.1 < s12.2)) = true then Option.bind (Option.bind (shr .u64 (IntKind.wrap .u64 (w64 (s12.1 + s12.2))) 1) fun x32 => Option.bind (idx l (IntKind.wrap .i64 x32)) fun x33 => Option.bind (cal_Calendar_shiftsOf_1 x33 day) fun x40 => Option.bind (if (decide (x40 < 0)) = true then some (w64 ((IntKind.wrap .i64 x32) + 1), s12.2) else some (s12.1, IntKind.wrap .i64 x32)) fun s45 => some (s45.1, s45.2)) fun s25 => some (.nx (s25.1, s25.2)) else some (.bk (s12.1, s12.2)))
  (fun s => ∃ a b : Nat, s = ((a : Int), (b : Int)) ∧ a ≤ b ∧ b ≤ l.length ∧ (∀ q x, q < a → l[q]? = some x → x.day < day) ∧ ∀ q x, b ≤ q → l[q]? = some x → day ≤ x.day) (fun s => (s.2 - s.1).toNat)
  (fun o => ∃ a : Nat, o = .fin ((a : Int), (a : Int)) ∧ a ≤ l.length ∧ (∀ q x, q < a → l[q]? = some x → x.day < day) ∧ ∀ q x, a ≤ q → l[q]? = some x → day ≤ x.day) (s := (0, (l.length : Int)))
  ⟨0, l.length, rfl, Nat.zero_le _, Nat.le_refl _, fun q x h => absurd h (Nat.not_lt_zero _), fun q x h hx => absurd (List.getElem?_eq_some_iff.1 hx).1 (by omega)⟩ (by
  rintro _ ⟨a, b, rfl, hab, hb, h1, h2⟩
  simp only
  by_cases hlt : (a : Int) < (b : Int)
  ·have hm := mid_val (a + b) (by omega)
   cases hsh : shr .u64 (IntKind.wrap .u64 (w64 ((a : Int) + (b : Int)))) 1 with
   | none => rw [show ((a + b : Nat) : Int) = (a : Int) + (b : Int) by omega, hsh] at hm; simp at hm
   | some v =>
    rw [show ((a + b : Nat) : Int) = (a : Int) + (b : Int) by omega, hsh] at hm
    simp only [Option.bind_some, Option.some.injEq] at hm
    have hmb : (a + b) / 2 < l.length := by omega
    have hx : l[(a + b) / 2]? = some l[(a + b) / 2] := List.getElem?_eq_getElem hmb
    generalize l[(a + b) / 2] = x at hx
    simp only [hlt, decide_true, if_true, Option.bind_some, hm, idx_nat, hx, cal_Calendar_shiftsOf_1, compare_val]
    by_cases hd : x.day < day
    ·simp only [hd, if_true, show (-1 : Int) < 0 by decide, decide_true, Option.bind_some]
     rw [w64_id (by omega) (by omega)]
     refine ⟨_, rfl, ⟨(a + b) / 2 + 1, b, by congr 1, by omega, hb, fun q y hq hy => ?_, h2⟩, by simp only; omega⟩
     rcases Nat.lt_or_eq_of_le (Nat.le_of_lt_succ hq) with h | rfl
     ·have := hp q _ y x h hy hx; omega
     ·rw [hx] at hy; cases hy; exact hd
    ·have hn : ¬ (if x.day < day then (-1 : Int) else if day < x.day then 1 else 0) < 0 := by
      rw [if_neg hd]; split <;> omega
     simp only [hn, decide_false, Bool.false_eq_true, if_false, Option.bind_some]
     refine ⟨_, rfl, ⟨a, (a + b) / 2, rfl, by omega, by omega, h1, fun q y hq hy => ?_⟩, by simp only; omega⟩
     rcases Nat.lt_or_eq_of_le hq with h | rfl
     ·have := hp _ q x y h hx hy; omega
     ·rw [hx] at hy; cases hy; omega
  ·simp only [hlt, decide_false, Bool.false_eq_true, if_false]
   obtain rfl : a = b := by omega
   exact ⟨_, rfl, a, rfl, hb, h1, h2⟩)
 rw [ho]
 refine ⟨a, ha, ?_, hlo, hhi⟩
 simp only [Option.bind_some, Lp.andThen_fin]
 by_cases hal : (a : Int) < (l.length : Int)
 ·have hx : l[a]? = some l[a] := List.getElem?_eq_getElem (by omega)
  generalize l[a] = x at hx
  simp only [hal, decide_true, if_true, idx_nat, hx, Option.bind_some, cal_Calendar_shiftsOf_1, compare_val]
  congr 2
  rw [Bool.eq_iff_iff]
  simp only [beq_iff_eq, decide_eq_true_eq, Option.some.injEq, exists_eq_left']
  split
  ·omega
  ·split <;> omega
 ·simp only [hal, decide_false, Bool.false_eq_true, if_false, Option.bind_some]
  congr 2
  have : l[a]? = none := List.getElem?_eq_none (by omega)
  simp [this]
theorem shiftsOf_val {c : cal_Calendar} (hc : CalOk c) (day : Int) (h : -100000 ≤ day) (h' : day ≤ 100000) : cal_Calendar_shiftsOf c day = some (daySh c day) := by
 unfold cal_Calendar_shiftsOf
 have hs : c.specials.Pairwise fun x y => x.day < y.day := chain_pairwise (R := fun x y : cal_Special => x.day < y.day) (fun a b c h1 h2 => Int.lt_trans h1 h2) _ hc.rising
 obtain ⟨a, ha, e, hlo, hhi⟩ := search_val hc.specials hs day
 rw [e]
 simp only [Option.bind_some]
 unfold daySh
 by_cases hx : ∃ x, c.specials[a]? = some x ∧ x.day = day
 ·simp only [hx, decide_true, if_true]
  obtain ⟨x, hx1, hx2⟩ := hx
  have hf : c.specials.find? (fun x => x.day == day) = some x := by
   obtain ⟨h1, h2⟩ := List.getElem?_eq_some_iff.1 hx1
   refine List.find?_eq_some_iff_getElem.2 ⟨by simpa using hx2, a, h1, h2, fun j hj => ?_⟩
   have := hlo j _ hj (List.getElem?_eq_getElem (by omega))
   simp
   omega
  rw [hf, idx_nat, hx1]
  obtain ⟨_, _, h3, _, _⟩ := hc.special a x hx1
  unfold slices_Clone_Lcal_Shift_cal_Shift
  simp only [Option.bind_some]
  rw [appendL, if_pos (by simp; omega)]
  rfl
 ·simp only [hx, decide_false, Bool.false_eq_true, if_false]
  have hf : c.specials.find? (fun x => x.day == day) = none := by
   refine List.find?_eq_none.2 fun x hm => ?_
   obtain ⟨q, hq⟩ := List.mem_iff_getElem?.1 hm
   intro hd
   simp only [beq_iff_eq] at hd
   rcases Nat.lt_or_ge q a with h1 | h1
   ·have := hlo q x h1 hq; omega
   ·rcases Nat.lt_or_eq_of_le h1 with h2 | rfl
    ·obtain ⟨h3, h4⟩ := List.getElem?_eq_some_iff.1 hq
     have hxa : c.specials[a]? = some c.specials[a] := List.getElem?_eq_getElem (by omega)
     have := List.pairwise_iff_getElem.1 hs a q (by omega) h3 h2
     have h5 := hhi a _ (Nat.le_refl _) hxa
     rw [h4] at this
     omega
    ·exact hx ⟨x, hq, hd⟩
  rw [hf]
  simp only
  rw [week_loop c.week hc.weeks day (day % 7) _ (by
   intro k s x hx
   simp only [idx_nat, hx, Option.bind_some, floor7 day (by omega) (by omega)]
   rw [w64_id (n := 7 * (day / 7)) (by omega) (by omega), w64_id (by omega) (by omega), show day - 7 * (day / 7) = day % 7 by omega])]
  rfl
def Opn (c : cal_Calendar) (m : Int) : Prop := ∃ day s, s ∈ daySh c day ∧ day * 1440 + s.from_ ≤ m + off c.zone m ∧ m + off c.zone m < day * 1440 + s.to_
theorem clock_open {c : cal_Calendar} (hc : CalOk c) (m : Int) (h0 : 0 ≤ m) (h1 : m ≤ 3000000) : ∃ b, portref2_Clock_Open c m = some b ∧ (b = true ↔ Opn c m) := by
 have hb := off_bound hc.zone m
 unfold portref2_Clock_Open portref2_LocalIn portref2_Clock_shifts
 simp only [offsetIn_val, Option.bind_some]
 rw [w64_id (n := m + off c.zone m) (by omega) (by omega), floorDiv1440 _ (by omega) (by omega)]
 simp only [Option.bind_some]
 rw [w64_id (n := (m + off c.zone m) / 1440 - 1) (by omega) (by omega), w64_id (n := (m + off c.zone m) % 1440 + 1440) (by omega) (by omega)]
 rw [shiftsIn_val hc _ (by omega) (by omega), shiftsIn_val hc _ (by omega) (by omega)]
 simp only [Option.bind_some]
 have key : Opn c m ↔ (daySh c ((m + off c.zone m) / 1440)).any (fun x => decide (x.from_ ≤ (m + off c.zone m) % 1440) && decide ((m + off c.zone m) % 1440 < x.to_)) = true ∨ (daySh c ((m + off c.zone m) / 1440 - 1)).any (fun x => decide (x.from_ ≤ (m + off c.zone m) % 1440 + 1440) && decide ((m + off c.zone m) % 1440 + 1440 < x.to_)) = true := by
  simp only [List.any_eq_true, Bool.and_eq_true, decide_eq_true_eq]
  generalize hL : m + off c.zone m = L
  constructor
  ·rintro ⟨day, s, hs, q1, q2⟩
   rw [hL] at q1 q2
   obtain ⟨o1, o2, o3, o4⟩ := (daySh_ok hc day).1 s hs
   by_cases hd : day = L / 1440
   ·subst hd
    exact .inl ⟨s, hs, by omega, by omega⟩
   ·have : day = L / 1440 - 1 := by omega
    subst this
    exact .inr ⟨s, hs, by omega, by omega⟩
  ·rintro (⟨s, hs, q1, q2⟩ | ⟨s, hs, q1, q2⟩)
   ·exact ⟨_, s, hs, by omega, by omega⟩
   ·exact ⟨_, s, hs, by omega, by omega⟩
 rw [rangeB_any (daySh c ((m + off c.zone m) / 1440)) (fun x => decide (x.from_ ≤ (m + off c.zone m) % 1440) && decide ((m + off c.zone m) % 1440 < x.to_)) true]
 rw [rangeB_any (daySh c ((m + off c.zone m) / 1440 - 1)) (fun x => decide (x.from_ ≤ (m + off c.zone m) % 1440 + 1440) && decide ((m + off c.zone m) % 1440 + 1440 < x.to_)) true]
 rw [key]
 generalize (daySh c ((m + off c.zone m) / 1440)).any _ = b1
 generalize (daySh c ((m + off c.zone m) / 1440 - 1)).any _ = b2
 cases b1 <;> cases b2 <;> simp [Lp.andThen]
end Go.Proofs.Ytabkhhpkibbheaa.M
