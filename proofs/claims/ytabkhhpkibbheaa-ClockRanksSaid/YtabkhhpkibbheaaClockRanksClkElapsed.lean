import Derived.Test.YtabkhhpkibbheaaClockRanksCalWorked
import Derived.Test.YtabkhhpkibbheaaClockRanksClkMeter
namespace Go.Proofs.Ytabkhhpkibbheaa.M
open Go Go.Pu
set_option linter.unusedSimpArgs false
set_option linter.unusedVariables false
theorem elapsed_forL {cals : List cal_Calendar} (m : Int) (hm0 : 0 ≤ m) (hm1 : m ≤ 3000000) (W : cal_Calendar → Int → Int → Option Int) (hW : ∀ k a b, k ∈ cals → CalOk k → cal_CheckCalendar k = some 0 → 0 ≤ a → a ≤ 3000000 → a < b → b ≤ 3000001 → W k a b = some (cnt (Opn k) a b))
  (body : Nat → level_Piece → Int → Option (Ctl Int Int)) (hb : ∀ j (p : level_Piece) (n : Int) k, idx cals p.calendar = some k → body j p n = (if p.from_ < (if m < endP p then m else endP p) then Option.bind (W k p.from_ (if m < endP p then m else endP p)) fun x => some (.nx (w64 (n + x))) else some (.nx n)) ∨ (p.to_ ≠ -1 ∧ (p.to_ ≤ p.from_ ∨ p.to_ < 0))) :
  ∀ (l : List level_Piece) (j : Nat) (lo n : Int), 0 ≤ lo → SortedP cals lo l → 0 ≤ n → n ≤ lo → lo ≤ 3000001 → forL body l j n = some (.fin (n + cnt (OC cals l) lo m))
 | [], j, lo, n, h0, hs, hn0, hn1, hlo => by rw [forL, oc_nil, Int.add_zero]
 | p :: l, j, lo, n, h0, hs, hn0, hn1, hlo => by
  have hs' := hs
  obtain ⟨h1, h2, h3, ⟨c, hc, hok, hcc⟩, h5⟩ := hs'
  obtain ⟨he1, he2, he3, he4⟩ := endP_of h0 h1 h2 h3
  rw [forL, (hb j p n c hc).resolve_right (by omega), cnt_oc h0 hs hc]
  generalize hq : (if m < endP p then m else endP p) = q
  have hq1 : q ≤ endP p := by rw [← hq]; split <;> omega
  by_cases hf : p.from_ < q
  ·rw [if_pos hf, hW c p.from_ q (idx_mem hc) hok hcc (by omega) h2 hf (by omega)]
   have g0 := cnt_nonneg (O := Opn c) (a := p.from_) (b := q)
   have g1 := cnt_le (O := Opn c) (a := p.from_) (b := q) (by omega)
   simp only [Option.bind_some]
   rw [w64_id (by omega) (by omega), elapsed_forL m hm0 hm1 W hW body hb l (j + 1) (endP p) _ (by omega) h5 (by omega) (by omega) he2]
   rw [Int.add_assoc]
  ·rw [if_neg hf]
   simp only
   rw [elapsed_forL m hm0 hm1 W hW body hb l (j + 1) (endP p) n (by omega) h5 hn0 (by omega) he2, cnt_empty (a := p.from_) (by omega), Int.zero_add]
theorem elapsed_val {cals : List cal_Calendar} (c : level_Clock) (h0 : 0 ≤ c.start) (h1 : c.start ≤ 3000000) (hs : SortedP cals c.start c.pieces) (m : Int) (hm0 : 0 ≤ m) (hm1 : m ≤ 3000000) : level_elapsed c cals m = some (cnt (OC cals c.pieces) c.start m) := by
 unfold level_elapsed
 have key := elapsed_forL (cals := cals) m hm0 hm1 (fun k a b => some (cnt (Opn k) a b)) (fun _ _ _ _ _ _ _ _ _ _ => rfl)
  (fun _ (p : level_Piece) (n : Int) => match idx cals p.calendar with | none => none | some k => if p.from_ < (if m < endP p then m else endP p) then some (.nx (w64 (n + cnt (Opn k) p.from_ (if m < endP p then m else endP p)))) else some (.nx n)) (fun j p n k hk => .inl (by rw [hk]; rfl)) c.pieces 0 c.start 0 h0 hs (Int.le_refl _) h0 (by omega)
 rw [Int.zero_add] at key
 have hall : ∀ (l : List level_Piece) (lo : Int), 0 ≤ lo → SortedP cals lo l → ∀ p ∈ l, 0 ≤ p.from_ ∧ p.from_ ≤ 3000000 ∧ (p.to_ = -1 ∨ (p.from_ < p.to_ ∧ p.to_ ≤ 3000000)) ∧ ∃ k, idx cals p.calendar = some k ∧ CalOk k ∧ cal_CheckCalendar k = some 0 := by
  intro l
  induction l with
  | nil => intro _ _ _ p hp; cases hp
  | cons q l ih =>
   intro lo hlo hs p hp
   obtain ⟨g1, g2, g3, g4, g5⟩ := hs
   obtain ⟨e1, _, _, _⟩ := endP_of hlo g1 g2 g3
   rcases List.mem_cons.1 hp with rfl | hp
   ·exact ⟨by omega, g2, g3, g4⟩
   ·exact ih (endP q) (by omega) g5 p hp
 rw [rangeB_forL c.pieces (R := Int) (fun _ (p : level_Piece) (n : Int) => match idx cals p.calendar with | none => none | some k => if p.from_ < (if m < endP p then m else endP p) then some (.nx (w64 (n + cnt (Opn k) p.from_ (if m < endP p then m else endP p)))) else some (.nx n)) _ (fun j n p hp => by
  obtain ⟨g0, g1, g2, k, gk, gok, gcc⟩ := hall _ _ h0 hs p (List.mem_of_getElem? hp)
  obtain ⟨he1, he2, he3, he4⟩ := endP_of g0 (Int.le_refl _) g1 g2
  have e : (if (p.to_ != (-1)) = true then some (if p.to_ < m then p.to_ else m) else some m) = some (if m < endP p then m else endP p) := by
   by_cases h : p.to_ = -1
   ·have := he3 h
    simp [h, this]
    omega
   ·have := he4 h
    rw [this]
    simp only [bne_iff_ne, ne_eq, h, not_false_eq_true, if_true]
    congr 1
    split <;> split <;> omega
  simp only [idx_nat, hp, Option.bind_some, e, gk]
  generalize hq : (if m < endP p then m else endP p) = q
  have hq1 : q ≤ endP p := by rw [← hq]; split <;> omega
  by_cases hf : p.from_ < q
  ·simp only [hf, decide_true, if_true, worked_val gok gcc p.from_ q g0 g1 (by omega) (by omega), Option.bind_some]
  ·simp only [hf, decide_false, Bool.false_eq_true, if_false, Option.bind_some]) 0, key]
 rfl
theorem rworked_val {c : cal_Calendar} (hc : CalOk c) (a b : Int) (h0 : 0 ≤ a) (h1 : a ≤ 3000000) (h3 : b ≤ 3000001) : portref2_Clock_Worked c a b = some (cnt (Opn c) a b) := by
 unfold portref2_Clock_Worked
 by_cases hab : a ≤ b
 rotate_left
 ·rw [cnt_empty (by omega), whileB_eq]
  have : ¬ a < b := by omega
  simp [this, Lp.andThen]
 obtain ⟨r, hr, m, rfl, hm⟩ := whileB_spec (R := Int) (body := fun s10 => if (decide (s10.2 < b)) = true then Option.bind (Option.bind (portref2_Clock_Open c s10.2) fun x30 => Option.bind (if x30 = true then some (w64 (s10.1 + 1)) else some s10.1) fun s36 => some s36) fun s23 => some (.nx (s23, w64 (s10.2 + 1))) else some (.bk (s10.1, s10.2))) (s := ((0 : Int), a)) (fun s => a ≤ s.2 ∧ s.2 ≤ b ∧ s.1 = cnt (Opn c) a s.2) (fun s => (b - s.2).toNat) (fun r => ∃ m, r = .fin (cnt (Opn c) a b, m) ∧ True) ⟨Int.le_refl _, hab, cnt_self.symm⟩ (by
  rintro ⟨n, m⟩ ⟨i1, i2, i3⟩
  simp only at i1 i2 i3 ⊢
  by_cases hm : m < b
  ·obtain ⟨o, ho, hoo⟩ := clock_open hc m (by omega) (by omega)
   simp only [hm, decide_true, if_true, ho, Option.bind_some]
   rw [w64_id (n := m + 1) (by omega) (by omega)]
   have hn0 := cnt_nonneg (O := Opn c) (a := a) (b := m)
   have hn1 := cnt_le (O := Opn c) (a := a) (b := m) i1
   cases o with
   | true =>
    simp only [if_true, Option.bind_some]
    rw [w64_id (n := n + 1) (by omega) (by omega)]
    exact ⟨_, rfl, ⟨by simp only; omega, by simp only; omega, by simp only; rw [cnt_step_yes i1 (hoo.1 rfl), i3]⟩, by simp only; omega⟩
   | false =>
    simp only [Bool.false_eq_true, if_false, Option.bind_some]
    exact ⟨_, rfl, ⟨by simp only; omega, by simp only; omega, by simp only; rw [cnt_step_no i1 (fun h => by have := hoo.2 h; cases this), i3]⟩, by simp only; omega⟩
  ·simp only [hm, decide_false, Bool.false_eq_true, if_false]
   refine ⟨_, rfl, m, ?_, trivial⟩
   rw [i3, show m = b by omega])
 rw [hr]
 rfl
theorem relapsed_val {cals : List cal_Calendar} (c : level_Clock) (h0 : 0 ≤ c.start) (h1 : c.start ≤ 3000000) (hs : SortedP cals c.start c.pieces) (m : Int) (hm0 : 0 ≤ m) (hm1 : m ≤ 3000000) : portref2_meter_elapsed ⟨cals⟩ c m = some (cnt (OC cals c.pieces) c.start m) := by
 unfold portref2_meter_elapsed
 have key := elapsed_forL (cals := cals) m hm0 hm1 (fun k a b => some (cnt (Opn k) a b)) (fun _ _ _ _ _ _ _ _ _ _ => rfl)
  (fun _ (p : level_Piece) (n : Int) => match idx cals p.calendar with | none => none | some k => if p.from_ < (if m < endP p then m else endP p) then some (.nx (w64 (n + cnt (Opn k) p.from_ (if m < endP p then m else endP p)))) else some (.nx n)) (fun j p n k hk => .inl (by rw [hk]; rfl)) c.pieces 0 c.start 0 h0 hs (Int.le_refl _) h0 (by omega)
 rw [Int.zero_add] at key
 have key2 : ∀ (l : List level_Piece) (j : Nat) (lo n : Int), 0 ≤ lo → SortedP cals lo l → 0 ≤ n → n ≤ lo → lo ≤ 3000001 → forL (R := Int) (fun _ (x37 : level_Piece) (s24 : Int) => Option.bind (if (decide ((0 : Int) ≤ x37.to_)) = true then some (if x37.to_ < m then x37.to_ else m) else some m) fun s52 => Option.bind (idx cals x37.calendar) fun x65 => Option.bind (portref2_Clock_Worked x65 x37.from_ s52) fun x72 => some (.nx (w64 (s24 + x72)))) l j n = some (.fin (n + cnt (OC cals l) lo m)) := by
  intro l
  induction l with
  | nil => intro j lo n _ _ _ _ _; rw [forL, oc_nil, Int.add_zero]
  | cons p l ih =>
   intro j lo n g0 gs gn0 gn1 glo
   have gs' := gs
   obtain ⟨g1, g2, g3, ⟨k, gk, gok, gcc⟩, g5⟩ := gs'
   obtain ⟨he1, he2, he3, he4⟩ := endP_of g0 g1 g2 g3
   have e : (if (decide ((0 : Int) ≤ p.to_)) = true then some (if p.to_ < m then p.to_ else m) else some m) = some (if m < endP p then m else endP p) := by
    by_cases h : p.to_ = -1
    ·have := he3 h
     simp [h, this]
     omega
    ·have h4 := he4 h
     rw [h4]
     have h5 : (0 : Int) ≤ p.to_ := by omega
     simp only [h5, decide_true, if_true]
     congr 1
     split <;> split <;> omega
   rw [forL, e, cnt_oc g0 gs gk]
   generalize hq : (if m < endP p then m else endP p) = q
   have hq1 : q ≤ endP p := by rw [← hq]; split <;> omega
   simp only [Option.bind_some, gk, rworked_val gok p.from_ q (by omega) g2 (by omega)]
   have q0 := cnt_nonneg (O := Opn k) (a := p.from_) (b := q)
   have q1 : cnt (Opn k) p.from_ q ≤ endP p - p.from_ := by
    by_cases hf : p.from_ ≤ q
    ·have := cnt_le (O := Opn k) (a := p.from_) (b := q) hf
     omega
    ·rw [cnt_empty (by omega)]
     omega
   rw [w64_id (by omega) (by omega), ih (j + 1) (endP p) _ (by omega) g5 (by omega) (by omega) he2, Int.add_assoc]
 rw [rangeB_forL c.pieces (R := Int) (fun _ (x37 : level_Piece) (s24 : Int) => Option.bind (if (decide ((0 : Int) ≤ x37.to_)) = true then some (if x37.to_ < m then x37.to_ else m) else some m) fun s52 => Option.bind (idx cals x37.calendar) fun x65 => Option.bind (portref2_Clock_Worked x65 x37.from_ s52) fun x72 => some (.nx (w64 (s24 + x72)))) _ (fun j s x hx => by simp [idx_nat, hx]) 0, key2 c.pieces 0 c.start 0 h0 hs (Int.le_refl _) h0 (by omega)]
 simp [Lp.andThen]
end Go.Proofs.Ytabkhhpkibbheaa.M
