import Derived.Test.YtabkhhpkibbheaaClockRanksClkMeter
namespace Go.Proofs.Ytabkhhpkibbheaa.M
open Go Go.Pu
set_option linter.unusedSimpArgs false
set_option linter.unusedVariables false
theorem first_forL {cals : List cal_Calendar} (m : Int) (hm0 : 0 ≤ m) (hm1 : m ≤ 3000000) (body : Nat → level_Piece → Int → Option (Ctl Int Int)) (hb : ∀ j (x79 : level_Piece) (s58 : Int), body j x79 s58 = Option.bind (Option.bind (if (decide (x79.from_ ≤ m)) = true then (if (decide (x79.to_ < 0)) = true then (if true = true then (Option.bind (idx cals x79.calendar) fun x106 => Option.bind (portref2_Clock_Open x106 m) fun x115 => some x115) else (some false)) else (if (decide (m < x79.to_)) = true then (Option.bind (idx cals x79.calendar) fun x128 => Option.bind (portref2_Clock_Open x128 m) fun x137 => some x137) else (some false))) else (if false = true then (Option.bind (idx cals x79.calendar) fun x149 => Option.bind (portref2_Clock_Open x149 m) fun x158 => some x158) else (some false))) fun s93 => Option.bind (if s93 = true then some (w64 (s58 + 1)) else some s58) fun s169 => some s169) fun s72 => some (.nx s72)) :
  ∀ (l : List level_Piece) (j : Nat) (lo n : Int), 0 ≤ lo → SortedP cals lo l → 0 ≤ n → n + l.length ≤ 4000000 → ∃ n', forL body l j n = some (.fin n') ∧ ((OC cals l m ∧ n' = n + 1) ∨ (¬ OC cals l m ∧ n' = n))
 | [], j, lo, n, h0, hs, hn0, hn1 => ⟨n, rfl, .inr ⟨(fun ⟨p, hp, _⟩ => by cases hp), rfl⟩⟩
 | p :: l, j, lo, n, h0, hs, hn0, hn1 => by
  simp only [List.length_cons] at hn1
  have hs' := hs
  obtain ⟨h1, h2, h3, ⟨c, hc, hok, hcc⟩, h5⟩ := hs'
  obtain ⟨he1, he2, he3, he4⟩ := endP_of h0 h1 h2 h3
  obtain ⟨b, hb1, hb2⟩ := clock_open hok m hm0 hm1
  rw [forL, hb]
  simp only [hc, hb1, Option.bind_some, Bool.false_eq_true, if_false, if_true]
  by_cases hf : p.from_ ≤ m
  rotate_left
  ·simp only [hf, decide_false, Bool.false_eq_true, if_false, Option.bind_some]
   obtain ⟨n', e, h⟩ := first_forL m hm0 hm1 body hb l (j + 1) (endP p) n (by omega) h5 hn0 (by omega)
   refine ⟨n', e, ?_⟩
   have hno : ¬ OC cals l m := fun h => (by have := oc_lo (by omega) h5 m h; omega)
   have hno' : ¬ OC cals (p :: l) m := fun h => (by have := (oc_in h0 hs hc m (by omega)).1 h; omega)
   exact .inr ⟨hno', (h.resolve_left fun h => hno h.1).2⟩
  simp only [hf, decide_true, if_true]
  by_cases hlt : m < endP p
  ·have e2 : (if (decide (p.to_ < 0)) = true then (some b) else (if (decide (m < p.to_)) = true then some b else (some false))) = some b := by
    by_cases h : p.to_ < 0
    ·simp [h]
    ·have : m < p.to_ := by have := he4 (by omega); omega
     simp [this]
   rw [e2]
   simp only [Option.bind_some]
   have hno : ¬ OC cals l m := fun h => (by have := oc_lo (by omega) h5 m h; omega)
   cases b with
   | true =>
    simp only [if_true, Option.bind_some]
    rw [w64_id (by omega) (by omega)]
    obtain ⟨n', e, h⟩ := first_forL m hm0 hm1 body hb l (j + 1) (endP p) (n + 1) (by omega) h5 (by omega) (by omega)
    exact ⟨n', e, .inl ⟨(oc_in h0 hs hc m hlt).2 ⟨hf, hb2.1 rfl⟩, (h.resolve_left fun h => hno h.1).2⟩⟩
   | false =>
    simp only [Bool.false_eq_true, if_false, Option.bind_some]
    obtain ⟨n', e, h⟩ := first_forL m hm0 hm1 body hb l (j + 1) (endP p) n (by omega) h5 hn0 (by omega)
    refine ⟨n', e, .inr ⟨fun h => ?_, (h.resolve_left fun h => hno h.1).2⟩⟩
    have := hb2.2 ((oc_in h0 hs hc m hlt).1 h).2
    cases this
  ·have e2 : (if (decide (p.to_ < 0)) = true then (some b) else (if (decide (m < p.to_)) = true then some b else (some false))) = some false := by
    have h : ¬ p.to_ < 0 := fun h => by have := he3 (by omega); omega
    have h' : ¬ m < p.to_ := by have := he4 (by omega); omega
    simp [h, h']
   rw [e2]
   simp only [Option.bind_some, Bool.false_eq_true, if_false]
   obtain ⟨n', e, h⟩ := first_forL m hm0 hm1 body hb l (j + 1) (endP p) n (by omega) h5 hn0 (by omega)
   refine ⟨n', e, ?_⟩
   rw [oc_past h0 hs m (by omega)]
   exact h
theorem first_val {cals : List cal_Calendar} (c : level_Clock) (hlen : c.pieces.length ≤ 6000) (h0 : 0 ≤ c.start) (h1 : c.start ≤ 3000000) (hs : SortedP cals c.start c.pieces) (amount : Int) :
  ∃ f, portref2_meter_first ⟨cals⟩ c amount = some f ∧ c.start ≤ f ∧ f ≤ 3000001 ∧ (∀ m, c.start ≤ m → m < f → cnt (OC cals c.pieces) c.start m < amount) ∧ (f ≤ 3000000 → amount ≤ cnt (OC cals c.pieces) c.start f) := by
 unfold portref2_meter_first
 obtain ⟨r, hr, f, hf, q⟩ := whileB_spec (R := Int) (body := fun s24 => if (decide (s24.2 ≤ 3000000)) = true then Option.bind (α := Lp _ _) (if (decide (amount ≤ s24.1)) = true then some (.rt s24.2) else Option.bind (rangeB (fun k52 s58 => Option.bind (Option.bind (idx c.pieces (k52 : Int)) fun x79 => Option.bind (if (decide (x79.from_ ≤ s24.2)) = true then (if (decide (x79.to_ < 0)) = true then (if true = true then (Option.bind (idx (⟨cals⟩ : portref2_meter).clocks x79.calendar) fun x106 => Option.bind (portref2_Clock_Open x106 s24.2) fun x115 => some x115) else (some false)) else (if (decide (s24.2 < x79.to_)) = true then (Option.bind (idx (⟨cals⟩ : portref2_meter).clocks x79.calendar) fun x128 => Option.bind (portref2_Clock_Open x128 s24.2) fun x137 => some x137) else (some false))) else (if false = true then (Option.bind (idx (⟨cals⟩ : portref2_meter).clocks x79.calendar) fun x149 => Option.bind (portref2_Clock_Open x149 s24.2) fun x158 => some x158) else (some false))) fun s93 => Option.bind (if s93 = true then some (w64 (s58 + 1)) else some s58) fun s169 => some s169) fun s72 => some (.nx s72)) c.pieces.length 0 s24.1) fun o49 => o49.andThen (fun y => some (.rt y)) fun s50 => some (.fin s50)) fun o36 => o36.andThen (fun y => some (.rt y)) fun s37 => some (.nx (s37, w64 (s24.2 + 1))) else some (.bk (s24.1, s24.2)))
  (s := ((0 : Int), c.start)) (fun s => c.start ≤ s.2 ∧ s.2 ≤ 3000001 ∧ s.1 = cnt (OC cals c.pieces) c.start s.2 ∧ ∀ m, c.start ≤ m → m < s.2 → cnt (OC cals c.pieces) c.start m < amount) (fun s => (3000002 - s.2).toNat)
  (fun r => ∃ f, (r = .rt f ∨ ∃ n, r = .fin (n, f)) ∧ c.start ≤ f ∧ f ≤ 3000001 ∧ (∀ m, c.start ≤ m → m < f → cnt (OC cals c.pieces) c.start m < amount) ∧ (f ≤ 3000000 → amount ≤ cnt (OC cals c.pieces) c.start f))
  ⟨Int.le_refl _, by simp only; omega, cnt_self.symm, fun m q1 q2 => by simp only at q2; omega⟩ (by
   rintro ⟨n, m⟩ ⟨i1, i2, i3, i4⟩
   simp only at i1 i2 i3 i4 ⊢
   by_cases hm : m ≤ 3000000
   rotate_left
   ·simp only [hm, decide_false, Bool.false_eq_true, if_false]
    exact ⟨_, rfl, m, .inr ⟨n, rfl⟩, i1, i2, i4, fun h => absurd h hm⟩
   simp only [hm, decide_true, if_true]
   by_cases ha : amount ≤ n
   ·simp only [ha, decide_true, if_true, Option.bind_some, Lp.andThen_rt]
    exact ⟨_, rfl, m, .inl rfl, i1, i2, i4, fun _ => by rw [← i3]; exact ha⟩
   ·simp only [ha, decide_false, Bool.false_eq_true, if_false]
    have hn0 := cnt_nonneg (O := OC cals c.pieces) (a := c.start) (b := m)
    have hn1 := cnt_le (O := OC cals c.pieces) (a := c.start) (b := m) i1
    obtain ⟨n', e, h⟩ := first_forL (cals := cals) m (by omega) hm (fun _ (x79 : level_Piece) (s58 : Int) => Option.bind (Option.bind (if (decide (x79.from_ ≤ m)) = true then (if (decide (x79.to_ < 0)) = true then (if true = true then (Option.bind (idx cals x79.calendar) fun x106 => Option.bind (portref2_Clock_Open x106 m) fun x115 => some x115) else (some false)) else (if (decide (m < x79.to_)) = true then (Option.bind (idx cals x79.calendar) fun x128 => Option.bind (portref2_Clock_Open x128 m) fun x137 => some x137) else (some false))) else (if false = true then (Option.bind (idx cals x79.calendar) fun x149 => Option.bind (portref2_Clock_Open x149 m) fun x158 => some x158) else (some false))) fun s93 => Option.bind (if s93 = true then some (w64 (s58 + 1)) else some s58) fun s169 => some s169) fun s72 => some (.nx s72)) (fun _ _ _ => rfl) c.pieces 0 c.start n h0 hs (by omega) (by omega)
    rw [rangeB_forL c.pieces (R := Int) (fun _ (x79 : level_Piece) (s58 : Int) => Option.bind (Option.bind (if (decide (x79.from_ ≤ m)) = true then (if (decide (x79.to_ < 0)) = true then (if true = true then (Option.bind (idx cals x79.calendar) fun x106 => Option.bind (portref2_Clock_Open x106 m) fun x115 => some x115) else (some false)) else (if (decide (m < x79.to_)) = true then (Option.bind (idx cals x79.calendar) fun x128 => Option.bind (portref2_Clock_Open x128 m) fun x137 => some x137) else (some false))) else (if false = true then (Option.bind (idx cals x79.calendar) fun x149 => Option.bind (portref2_Clock_Open x149 m) fun x158 => some x158) else (some false))) fun s93 => Option.bind (if s93 = true then some (w64 (s58 + 1)) else some s58) fun s169 => some s169) fun s72 => some (.nx s72)) _ (fun j s x hx => by simp [idx_nat, hx]) n, e]
    simp only [Option.bind_some, Lp.andThen_fin]
    rw [w64_id (n := m + 1) (by omega) (by omega)]
    have hlt : ∀ m', c.start ≤ m' → m' < m + 1 → cnt (OC cals c.pieces) c.start m' < amount := fun m' q1 q2 => by
     by_cases hq : m' = m
     ·subst hq; omega
     ·exact i4 m' q1 (by omega)
    rcases h with ⟨ho, rfl⟩ | ⟨ho, rfl⟩
    ·exact ⟨_, rfl, ⟨by simp only; omega, by simp only; omega, by simp only; rw [cnt_step_yes i1 ho, i3], hlt⟩, by simp only; omega⟩
    ·exact ⟨_, rfl, ⟨by simp only; omega, by simp only; omega, by simp only; rw [cnt_step_no i1 ho, i3], hlt⟩, by simp only; omega⟩)
 rw [hr]
 rcases hf with rfl | ⟨n, rfl⟩
 ·exact ⟨f, rfl, q⟩
 ·exact ⟨f, rfl, q⟩
end Go.Proofs.Ytabkhhpkibbheaa.M
