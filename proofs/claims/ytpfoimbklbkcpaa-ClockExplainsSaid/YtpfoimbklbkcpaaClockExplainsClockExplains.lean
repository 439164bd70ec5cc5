/-
  Explain and its reference agree: plain part.
-/
import Derived.Test.YtpfoimbklbkcpaaClockExplainsClkFault
import Derived.Test.YtpfoimbklbkcpaaClockExplainsClkMeter
namespace Go.Proofs.Ytpfoimbklbkcpaa.M
open Go Go.Pu
set_option linter.unusedSimpArgs false
set_option linter.unusedVariables false

/-- one more stretch a..b of what w -/
def extP (l : List level_Part) (a b w : Int) : List level_Part :=
  match l.getLast? with
  | some p => if p.what = w then l.dropLast ++ [⟨⟨p.span.from_, b⟩, w⟩] else l ++ [⟨⟨a, b⟩, w⟩]
  | none => [⟨⟨a, b⟩, w⟩]
theorem nil_or_snoc {α : Type} (l : List α) : l = [] ∨ ∃ i p, l = i ++ [p] := by
  rcases List.eq_nil_or_concat l with h | ⟨i, p, h⟩
  · exact .inl h
  · exact .inr ⟨i, p, by rw [h, List.concat_eq_append]⟩
theorem ext_nil (a b w : Int) : extP [] a b w = [⟨⟨a, b⟩, w⟩] := rfl
theorem ext_same (i : List level_Part) (p : level_Part) (a b : Int) : extP (i ++ [p]) a b p.what = i ++ [⟨⟨p.span.from_, b⟩, p.what⟩] := by
  simp [extP]
theorem ext_other (i : List level_Part) (p : level_Part) (a b w : Int) (h : p.what ≠ w) : extP (i ++ [p]) a b w = i ++ [p] ++ [⟨⟨a, b⟩, w⟩] := by
  simp [extP, h]
theorem ext_ext (l : List level_Part) (a b c w : Int) : extP (extP l a b w) b c w = extP l a c w := by
  rcases nil_or_snoc l with rfl | ⟨i, p, rfl⟩
  · exact ext_same [] ⟨⟨a, b⟩, w⟩ b c
  · by_cases h : p.what = w
    · subst h
      rw [ext_same i p a b, ext_same i p a c]
      exact ext_same i ⟨⟨p.span.from_, b⟩, p.what⟩ b c
    · rw [ext_other _ _ _ _ _ h, ext_other _ _ _ _ _ h]
      exact ext_same (i ++ [p]) ⟨⟨a, b⟩, w⟩ b c
theorem ext_len (l : List level_Part) (a b w : Int) : (extP l a b w).length ≤ l.length + 1 := by
  rcases nil_or_snoc l with rfl | ⟨i, p, rfl⟩
  · simp [ext_nil]
  · by_cases h : p.what = w
    · subst h; rw [ext_same]; simp
    · rw [ext_other _ _ _ _ _ h]; simp
theorem ext_last (l : List level_Part) (a b w : Int) : ∃ p, (extP l a b w).getLast? = some p ∧ p.span.to_ = b := by
  rcases nil_or_snoc l with rfl | ⟨i, p, rfl⟩
  · exact ⟨_, rfl, rfl⟩
  · by_cases h : p.what = w
    · subst h; rw [ext_same]; exact ⟨_, List.getLast?_concat, rfl⟩
    · rw [ext_other _ _ _ _ _ h]; exact ⟨_, List.getLast?_concat, rfl⟩

/-- moment by moment -/
def runP (W : Int → Int) (start : Int) : Nat → List level_Part
  | 0 => []
  | n + 1 => extP (runP W start n) (start + n) (start + n + 1) (W (start + n))
theorem run_seg (W : Int → Int) (start w : Int) (n : Nat) : ∀ k : Nat, (∀ u, start + n ≤ u → u < start + n + (k + 1 : Nat) → W u = w) → runP W start (n + (k + 1)) = extP (runP W start n) (start + n) (start + n + (k + 1 : Nat)) w
  | 0, h => by
    show extP _ _ _ _ = _
    rw [h (start + n) (Int.le_refl _) (by omega)]
    congr 1
  | k + 1, h => by
    have ih := run_seg W start w n k fun u h1 h2 => h u h1 (by omega)
    show extP (runP W start (n + (k + 1))) (start + (n + (k + 1) : Nat)) (start + (n + (k + 1) : Nat) + 1) (W (start + (n + (k + 1) : Nat))) = _
    rw [ih, h _ (by omega) (by omega), show start + ((n + (k + 1) : Nat) : Int) = start + n + (k + 1 : Nat) by omega, ext_ext]
    congr 1
    omega
theorem run_len (W : Int → Int) (start : Int) : ∀ n, (runP W start n).length ≤ n
  | 0 => Nat.le_refl _
  | n + 1 => by
    have := run_len W start n
    have := ext_len (runP W start n) (start + n) (start + n + 1) (W (start + n))
    rw [runP]
    omega
theorem run_last (W : Int → Int) (start : Int) (n : Nat) : ∀ p, (runP W start n).getLast? = some p → p.span.to_ = start + n := by
  intro p hp
  cases n with
  | zero => simp [runP] at hp
  | succ n =>
    obtain ⟨q, h1, h2⟩ := ext_last (runP W start n) (start + n) (start + n + 1) (W (start + n))
    rw [runP, h1] at hp
    cases hp
    rw [h2]
    omega

theorem upd_val {R : Type} (l : List level_Part) (a b w : Int) (g : level_Part → level_Part) (hg : ∀ p, l.getLast? = some p → g p = ⟨⟨p.span.from_, b⟩, p.what⟩) (hlen : l.length ≤ 5000000) (F : List level_Part → Option R) :
    Option.bind (if (decide ((0 : Int) < (l.length : Int))) = true then (Option.bind (idx l (w64 ((l.length : Int) - 1))) fun x6 => some (x6.what == w)) else (some false)) (fun s5 => Option.bind (if s5 = true then Option.bind (idx l (w64 ((l.length : Int) - 1))) fun x23 => Option.bind (setI l (w64 ((l.length : Int) - 1)) (g x23)) fun x30 => some x30 else Option.bind (appendL 5864062014805 l ([(⟨(⟨a, b⟩ : cal_Span), w⟩ : level_Part)] : List level_Part)) fun x40 => some x40) F) = F (extP l a b w) := by
  have ha : appendL 5864062014805 l ([(⟨(⟨a, b⟩ : cal_Span), w⟩ : level_Part)] : List level_Part) = some (l ++ [⟨⟨a, b⟩, w⟩]) := by
    unfold appendL
    rw [if_pos (by simp; omega)]
  rcases nil_or_snoc l with rfl | ⟨i, p, rfl⟩
  · simp [ext_nil, appendL]
  · have hw : w64 (((i ++ [p]).length : Int) - 1) = (i.length : Int) := by
      rw [w64_id (by omega) (by omega)]
      simp
    have hpos : (0 : Int) < (((i ++ [p]).length : Nat) : Int) := by simp
    have hx : idx (i ++ [p]) (i.length : Int) = some p := by rw [idx_nat]; simp
    simp only [hpos, decide_true, if_true, hw, hx, Option.bind_some]
    by_cases h : p.what = w
    · subst h
      have hs : setI (i ++ [p]) (i.length : Int) (g p) = some (i ++ [g p]) := by
        unfold setI
        rw [if_pos (by simp)]
        simp
      simp only [beq_self_eq_true, if_true, hs, Option.bind_some]
      rw [ext_same, hg p List.getLast?_concat]
    · have : (p.what == w) = false := by simpa using h
      simp only [this, Bool.false_eq_true, if_false, ha, Option.bind_some]
      rw [ext_other _ _ _ _ _ h]

theorem upTo_val (W : Int → Int) (start m : Int) (hst : 0 ≤ start) (hm : m ≤ 3000000) (n : Nat) (hn : start + n ≤ 3000000) (to_ w : Int) (hW : ∀ u, start + n ≤ u → u < (if m < to_ then m else to_) → W u = w) :
    ∃ n' : Nat, level_Explain_1 to_ w m (start + n) (runP W start n) = some (start + n', runP W start n') ∧ start + n' = (if (if m < to_ then m else to_) ≤ start + n then start + n else (if m < to_ then m else to_)) := by
  unfold level_Explain_1
  have hbm : (if m < to_ then m else to_) ≤ m := by split <;> omega
  generalize hb : (if m < to_ then m else to_) = b at hW hbm
  by_cases h : b ≤ start + n
  · simp only [h, decide_true, if_true]
    exact ⟨n, rfl, rfl⟩
  · simp only [h, decide_false, Bool.false_eq_true, if_false]
    have hl := run_len W start n
    rw [upd_val (runP W start n) (start + n) b w (fun x23 => { (x23 : level_Part) with span := { (x23.span : cal_Span) with to_ := b } }) (fun _ _ => rfl) (by omega)]
    obtain ⟨k, hk⟩ : ∃ k : Nat, b = start + n + (k + 1 : Nat) := ⟨(b - (start + n) - 1).toNat, by omega⟩
    refine ⟨n + (k + 1), ?_, by omega⟩
    have hs := run_seg W start w n k fun u h1 h2 => hW u h1 (by omega)
    rw [hs, hk]
    congr 2
    omega

open Classical in
/-- what a moment is -/
noncomputable def Wl (cals : List cal_Calendar) (l : List level_Piece) (u : Int) : Int := if OC cals l u then 1 else if ∃ p ∈ l, p.from_ ≤ u ∧ u < endP p then 2 else 3

section
variable {cals : List cal_Calendar} {lo : Int} {p : level_Piece} {l : List level_Piece} {k : cal_Calendar}
theorem in_lo : ∀ {l : List level_Piece} {lo : Int}, 0 ≤ lo → SortedP cals lo l → ∀ q ∈ l, lo ≤ q.from_
  | [], _, _, _, q, hq => by cases hq
  | p :: l, lo, h0, hs, q, hq => by
    obtain ⟨h1, h2, h3, h4, h5⟩ := hs
    obtain ⟨he1, he2, he3, he4⟩ := endP_of h0 h1 h2 h3
    rcases List.mem_cons.1 hq with rfl | hq
    · exact h1
    · have := in_lo (l := l) (lo := endP p) (by omega) h5 q hq
      omega
theorem Wl_before (h0 : 0 ≤ lo) (h : SortedP cals lo (p :: l)) (u : Int) (hu : u < p.from_) : Wl cals (p :: l) u = 3 := by
  have hs := h
  obtain ⟨h1, h2, h3, h4, h5⟩ := hs
  obtain ⟨he1, he2, he3, he4⟩ := endP_of h0 h1 h2 h3
  have hno : ¬ ∃ q ∈ p :: l, q.from_ ≤ u ∧ u < endP q := by
    rintro ⟨q, hq, q1, q2⟩
    rcases List.mem_cons.1 hq with rfl | hq
    · omega
    · have := in_lo (lo := endP p) (by omega) h5 q hq
      omega
  have hno2 : ¬ OC cals (p :: l) u := fun ⟨q, hq, q1, q2, _⟩ => hno ⟨q, hq, q1, q2⟩
  unfold Wl
  rw [if_neg hno2, if_neg hno]
theorem Wl_in (h0 : 0 ≤ lo) (h : SortedP cals lo (p :: l)) (hk : idx cals p.calendar = some k) (u : Int) (h1 : p.from_ ≤ u) (h2 : u < endP p) : (Opn k u → Wl cals (p :: l) u = 1) ∧ (¬ Opn k u → Wl cals (p :: l) u = 2) := by
  have ho := oc_in h0 h hk u h2
  unfold Wl
  constructor
  · intro hq
    rw [if_pos (ho.2 ⟨h1, hq⟩)]
  · intro hq
    rw [if_neg (fun h => hq (ho.1 h).2), if_pos ⟨p, by simp, h1, h2⟩]
theorem Wl_past (h0 : 0 ≤ lo) (h : SortedP cals lo (p :: l)) (u : Int) (hu : endP p ≤ u) : Wl cals (p :: l) u = Wl cals l u := by
  unfold Wl
  have ho := oc_past h0 h u hu
  have hq : (∃ q ∈ p :: l, q.from_ ≤ u ∧ u < endP q) ↔ ∃ q ∈ l, q.from_ ≤ u ∧ u < endP q := by
    constructor
    · rintro ⟨q, hq, q1, q2⟩
      rcases List.mem_cons.1 hq with rfl | hq
      · omega
      · exact ⟨q, hq, q1, q2⟩
    · rintro ⟨q, hq, q1⟩
      exact ⟨q, List.mem_cons_of_mem _ hq, q1⟩
  by_cases g1 : OC cals l u
  · rw [if_pos (ho.2 g1), if_pos g1]
  · rw [if_neg (fun h => g1 (ho.1 h)), if_neg g1]
    by_cases g2 : ∃ q ∈ l, q.from_ ≤ u ∧ u < endP q
    · rw [if_pos (hq.2 g2), if_pos g2]
    · rw [if_neg (fun h => g2 (hq.1 h)), if_neg g2]
end

theorem spans_val {c : cal_Calendar} (hc : CalOk c) (hcc : cal_CheckCalendar c = some 0) (from_ to_ : Int) (h0 : 0 ≤ from_) (h1 : from_ ≤ 3000000) (h2 : from_ ≤ to_) (h3 : to_ ≤ 3000001) : cal_Spans c from_ to_ = some (openL c from_ to_, 0) := by
  have hst : cal_stretch from_ to_ = 0 := by
    have e1 : cal_within from_ 0 3000000 = true := by simp [cal_within]; omega
    have e2 : cal_within to_ 0 3000001 = true := by simp [cal_within]; omega
    have e3 : ¬ to_ < from_ := by omega
    simp [cal_stretch, e1, e2, e3]
  unfold cal_Spans
  have hlen := open_len hc from_ to_
  have hlen' := hlen
  simp only [hcc, Option.bind_some, or_two, hst, ne_eq, not_true, if_false, bne_self_eq_false, Bool.false_eq_true, cal_Calendar_open]
  rw [open_val hc from_ to_ (by omega) (by omega), iter_collect 8796093022208 (openL c from_ to_) [] (by simp; omega)]
  have hn : ¬ (50000 : Int) < ((openL c from_ to_).length : Int) := by omega
  simp [hn]

/-- the spans of a piece -/
theorem spans_loop (W : Int → Int) (start m : Int) (hst : 0 ≤ start) (hm : m ≤ 3000000) {O : Int → Prop} (e : Int) (hem : e ≤ m) (body : Nat → cal_Span → (Int × List level_Part) → Option (Ctl (Int × List level_Part) Empty))
    (hbody : ∀ j x s, body j x s = Option.bind (level_Explain_1 x.from_ 2 m s.1 s.2) fun x209 => Option.bind (level_Explain_1 x.to_ 1 m x209.1 x209.2) fun x217 => some (.nx (x217.1, x217.2))) :
    ∀ (L : List cal_Span) (j : Nat) (n : Nat), start + n ≤ e → Apart O (start + n) e L → (∀ u, start + n ≤ u → u < e → (O u → W u = 1) ∧ (¬ O u → W u = 2)) →
      ∃ n' : Nat, forL body L j (start + n, runP W start n) = some (.fin (start + n', runP W start n')) ∧ n ≤ n' ∧ start + n' ≤ e ∧ ∀ u, start + n' ≤ u → u < e → ¬ O u
  | [], j, n, hn, ha, hW => ⟨n, rfl, Nat.le_refl _, hn, fun u h1 h2 => apart_nil ha u h1 h2⟩
  | x :: L, j, n, hn, ha, hW => by
    obtain ⟨g1, g2, g3, g4⟩ := apart_cons ha
    rw [forL, hbody]
    have b1 : (if m < x.from_ then m else x.from_) = x.from_ := if_neg (by omega)
    have b2 : (if m < x.to_ then m else x.to_) = x.to_ := if_neg (by omega)
    obtain ⟨n1, e1, q1⟩ := upTo_val W start m hst hm n (by omega) x.from_ 2 (fun u h1 h2 => by rw [b1] at h2; exact (hW u h1 (by omega)).2 (g2 u h1 h2))
    rw [b1] at q1
    have q1' : start + (n1 : Int) = x.from_ := by rw [q1]; split <;> omega
    obtain ⟨n2, e2, q2⟩ := upTo_val W start m hst hm n1 (by omega) x.to_ 1 (fun u h1 h2 => by rw [b2] at h2; exact (hW u (by omega) (by omega)).1 (g3 u (by omega) h2))
    rw [b2] at q2
    have q2' : start + (n2 : Int) = x.to_ := by rw [q2]; split <;> omega
    simp only [e1, e2, Option.bind_some]
    obtain ⟨n', e3, q3, q4, q5⟩ := spans_loop W start m hst hm e hem body hbody L (j + 1) n2 (by omega) (by rw [q2']; exact apart_tail ha) (fun u h1 h2 => hW u (by omega) h2)
    exact ⟨n', e3, by omega, q4, q5⟩

noncomputable def exBody (cals : List cal_Calendar) (m : Int) (x110 : level_Piece) (s85 : Int × List level_Part) : Option (Ctl (Int × List level_Part) (List level_Part × Int)) :=
  Option.bind (Option.bind (if (x110.to_ == (-1)) = true then some m else some x110.to_) fun s125 => Option.bind (level_Explain_1 x110.from_ 3 m s85.1 s85.2) fun x134 => if (decide ((if m < s125 then m else s125) ≤ x110.from_)) = true then some (x134.1, x134.2) else Option.bind (idx cals x110.calendar) fun x148 => Option.bind (cal_Spans x148 x110.from_ (if m < s125 then m else s125)) fun x160 => Option.bind (rangeB (R := Empty) (fun k171 s179 => Option.bind (idx x160.1 (k171 : Int)) fun x194 => Option.bind (level_Explain_1 x194.from_ 2 m s179.1 s179.2) fun x209 => Option.bind (level_Explain_1 x194.to_ 1 m x209.1 x209.2) fun x217 => some (.nx (x217.1, x217.2))) x160.1.length 0 (x134.1, x134.2)) fun o168 => o168.andThen (fun y => y.elim) fun s169 => Option.bind (level_Explain_1 (if m < s125 then m else s125) 2 m s169.1 s169.2) fun x227 => some (x227.1, x227.2)) fun s101 => some (.nx (s101.1, s101.2))

theorem pieces_loop {cals : List cal_Calendar} (W : Int → Int) (start m : Int) (hst : 0 ≤ start) (hm : m ≤ 3000000) (body : Nat → level_Piece → (Int × List level_Part) → Option (Ctl (Int × List level_Part) (List level_Part × Int)))
    (hbody : ∀ j (x110 : level_Piece) (s85 : Int × List level_Part), body j x110 s85 = exBody cals m x110 s85) :
    ∀ (l : List level_Piece) (j : Nat) (lo : Int) (n : Nat), 0 ≤ lo → SortedP cals lo l → start + n = (if lo ≤ m then lo else m) → start ≤ m → (∀ u, lo ≤ u → u < m → W u = Wl cals l u) →
      ∃ n' : Nat, forL body l j (start + n, runP W start n) = some (.fin (start + n', runP W start n')) ∧ start + n' ≤ m ∧ ∀ u, start + n' ≤ u → u < m → W u = 3
  | [], j, lo, n, h0, hs, hn, hsm, hW => ⟨n, rfl, by rw [hn]; split <;> omega, fun u h1 h2 => by
      have : lo ≤ u := by rw [hn] at h1; split at h1 <;> omega
      rw [hW u this h2]
      unfold Wl
      rw [if_neg (fun ⟨p, hp, _⟩ => by cases hp), if_neg (fun ⟨p, hp, _⟩ => by cases hp)]⟩
  | p :: l, j, lo, n, h0, hs, hn, hsm, hW => by
    have hs' := hs
    obtain ⟨h1, h2, h3, ⟨k, hk, hok, hcc⟩, h5⟩ := hs'
    obtain ⟨he1, he2, he3, he4⟩ := endP_of h0 h1 h2 h3
    rw [forL, hbody]
    unfold exBody
    have hnm : start + (n : Int) ≤ m := by rw [hn]; split <;> omega
    have hnl : start + (n : Int) ≤ lo := by rw [hn]; split <;> omega
    -- where the piece ends
    obtain ⟨s, es, hs1⟩ : ∃ s, (if (p.to_ == (-1)) = true then some m else some p.to_) = some s ∧ (if m < s then m else s) = (if m < endP p then m else endP p) := by
      by_cases h : p.to_ = -1
      · refine ⟨m, by simp [h], ?_⟩
        have := he3 h
        simp [this]
        omega
      · exact ⟨p.to_, by simp [h], by rw [he4 h]⟩
    rw [es]
    simp only [Option.bind_some, hs1]
    have hbf : (if m < p.from_ then m else p.from_) ≤ p.from_ := by split <;> omega
    have hbm : (if m < p.from_ then m else p.from_) ≤ m := by split <;> omega
    obtain ⟨n1, e1, q1⟩ := upTo_val W start m hst hm n (by omega) p.from_ 3 (fun u g1 g2 => by
      have : lo ≤ u := by rw [hn] at g1; split at g1 <;> omega
      rw [hW u this (by omega)]
      exact Wl_before h0 hs u (by omega))
    rw [e1]
    simp only [Option.bind_some]
    by_cases hfe : (if m < endP p then m else endP p) ≤ p.from_
    · simp only [hfe, decide_true, if_true, Option.bind_some]
      have hmp : m ≤ p.from_ := by split at hfe <;> omega
      have q1' : start + (n1 : Int) = m := by rw [q1]; repeat' split
                                              all_goals omega
      exact pieces_loop W start m hst hm body hbody l (j + 1) (endP p) n1 (by omega) h5 (by rw [q1', if_neg (by omega)]) hsm (fun u g1 g2 => by omega)
    · simp only [hfe, decide_false, Bool.false_eq_true, if_false, hk, Option.bind_some]
      have hpm : p.from_ < m := by split at hfe <;> omega
      have q1' : start + (n1 : Int) = p.from_ := by
        rw [q1, if_neg (show ¬ m < p.from_ by omega)]
        have : start + (n : Int) ≤ p.from_ := by omega
        split <;> omega
      generalize hE : (if m < endP p then m else endP p) = E at hfe
      have hE1 : E ≤ m ∧ E ≤ endP p := by rw [← hE]; split <;> omega
      rw [spans_val hok hcc p.from_ E (by omega) h2 (by omega) (by omega)]
      simp only [Option.bind_some]
      have hop := open_spec hok p.from_ E (by omega) (by omega)
      have hWp : ∀ u, p.from_ ≤ u → u < E → (Opn k u → W u = 1) ∧ (¬ Opn k u → W u = 2) := fun u g1 g2 => by
        rw [hW u (by omega) (by omega)]
        exact Wl_in h0 hs hk u g1 (by omega)
      obtain ⟨n2, e2, q2, q3, q4⟩ := spans_loop W start m hst hm (O := Opn k) E hE1.1 (fun _ x s => Option.bind (level_Explain_1 x.from_ 2 m s.1 s.2) fun x209 => Option.bind (level_Explain_1 x.to_ 1 m x209.1 x209.2) fun x217 => some (.nx (x217.1, x217.2))) (fun _ _ _ => rfl) (openL k p.from_ E) 0 n1 (by omega) (by rw [q1']; exact hop) (fun u g1 g2 => hWp u (by omega) g2)
      rw [rangeB_forL (openL k p.from_ E) (R := Empty) (fun _ x s => Option.bind (level_Explain_1 x.from_ 2 m s.1 s.2) fun x209 => Option.bind (level_Explain_1 x.to_ 1 m x209.1 x209.2) fun x217 => some (.nx (x217.1, x217.2))) _ (fun j s x hx => by simp [idx_nat, hx]) (start + n1, runP W start n1), e2]
      simp only [Option.bind_some, Lp.andThen_fin]
      have b3 : (if m < E then m else E) = E := if_neg (by omega)
      obtain ⟨n3, e3, q5⟩ := upTo_val W start m hst hm n2 (by omega) E 2 (fun u g1 g2 => by rw [b3] at g2; exact (hWp u (by omega) g2).2 (q4 u g1 g2))
      rw [b3] at q5
      have q5' : start + (n3 : Int) = E := by rw [q5]; split <;> omega
      rw [e3]
      simp only [Option.bind_some]
      exact pieces_loop W start m hst hm body hbody l (j + 1) (endP p) n3 (by omega) h5 (by rw [q5', ← hE]; repeat' split
                                                                                            all_goals omega) hsm (fun u g1 g2 => by rw [hW u (by omega) g2]; exact Wl_past h0 hs u g1)

/-- the reference's look at a moment -/
def whatBody (cals : List cal_Calendar) (t : Int) (x118 : level_Piece) (s97 : Int) : Option (Ctl Int Empty) :=
  Option.bind (Option.bind (if ((decide (x118.from_ ≤ t)) && ((decide (x118.to_ < 0)) || (decide (t < x118.to_)))) = true then Option.bind (idx cals x118.calendar) fun x148 => Option.bind (portref2_Clock_Open x148 t) fun x157 => Option.bind (if x157 = true then some 1 else some 2) fun s163 => some s163 else some s97) fun s139 => some s139) fun s111 => some (.nx s111)
theorem what_loop {cals : List cal_Calendar} (t : Int) (ht0 : 0 ≤ t) (ht1 : t ≤ 3000000) (body : Nat → level_Piece → Int → Option (Ctl Int Empty))
    (hbody : ∀ j (x118 : level_Piece) (s97 : Int), body j x118 s97 = whatBody cals t x118 s97) :
    ∀ (l : List level_Piece) (j : Nat) (lo s : Int), 0 ≤ lo → SortedP cals lo l → ∃ r, forL body l j s = some (.fin r) ∧ ((Wl cals l t = 3 ∧ r = s) ∨ (Wl cals l t ≠ 3 ∧ r = Wl cals l t))
  | [], j, lo, s, h0, hs => ⟨s, rfl, .inl ⟨by
      unfold Wl
      rw [if_neg (fun ⟨p, hp, _⟩ => by cases hp), if_neg (fun ⟨p, hp, _⟩ => by cases hp)], rfl⟩⟩
  | p :: l, j, lo, s, h0, hs => by
    have hs' := hs
    obtain ⟨h1, h2, h3, ⟨k, hk, hok, hcc⟩, h5⟩ := hs'
    obtain ⟨he1, he2, he3, he4⟩ := endP_of h0 h1 h2 h3
    rw [forL, hbody]
    unfold whatBody
    have hin : ((decide (p.from_ ≤ t)) && ((decide (p.to_ < 0)) || (decide (t < p.to_)))) = true ↔ p.from_ ≤ t ∧ t < endP p := by
      simp only [Bool.and_eq_true, Bool.or_eq_true, decide_eq_true_eq]
      by_cases h : p.to_ = -1
      · have := he3 h; omega
      · have := he4 h; omega
    by_cases hc : p.from_ ≤ t ∧ t < endP p
    · obtain ⟨o, ho, hoo⟩ := clock_open hok t ht0 ht1
      obtain ⟨w1, w2⟩ := Wl_in h0 hs hk t hc.1 hc.2
      rw [if_pos (hin.2 hc), hk]
      simp only [Option.bind_some, ho]
      have hrest : Wl cals l t = 3 := by
        unfold Wl
        have hno : ¬ ∃ q ∈ l, q.from_ ≤ t ∧ t < endP q := by
          rintro ⟨q, hq, q1, q2⟩
          have := in_lo (lo := endP p) (by omega) h5 q hq
          omega
        rw [if_neg (fun ⟨q, hq, q1, q2, _⟩ => hno ⟨q, hq, q1, q2⟩), if_neg hno]
      have e : (if o = true then some (1 : Int) else some 2) = some (Wl cals (p :: l) t) := by
        cases o with
        | true => rw [w1 (hoo.1 rfl)]; rfl
        | false => rw [w2 (fun h => by have := hoo.2 h; cases this)]; rfl
      rw [e]
      simp only [Option.bind_some]
      obtain ⟨r, e2, h⟩ := what_loop t ht0 ht1 body hbody l (j + 1) (endP p) (Wl cals (p :: l) t) (by omega) h5
      refine ⟨r, e2, .inr ⟨?_, ?_⟩⟩
      · cases o with
        | true => rw [w1 (hoo.1 rfl)]; decide
        | false => rw [w2 (fun h => by have := hoo.2 h; cases this)]; decide
      · rcases h with ⟨_, h⟩ | ⟨h, _⟩
        · exact h
        · exact absurd hrest h
    · rw [if_neg (fun h => hc (hin.1 h))]
      simp only [Option.bind_some]
      obtain ⟨r, e2, h⟩ := what_loop t ht0 ht1 body hbody l (j + 1) (endP p) s (by omega) h5
      refine ⟨r, e2, ?_⟩
      rcases Int.lt_or_le t p.from_ with hlt | hge
      · have h3' := Wl_before h0 hs t hlt
        have hl : Wl cals l t = 3 := by
          unfold Wl
          have hno : ¬ ∃ q ∈ l, q.from_ ≤ t ∧ t < endP q := by
            rintro ⟨q, hq, q1, q2⟩
            have := in_lo (lo := endP p) (by omega) h5 q hq
            omega
          rw [if_neg (fun ⟨q, hq, q1, q2, _⟩ => hno ⟨q, hq, q1, q2⟩), if_neg hno]
        rw [h3']
        rw [hl] at h
        exact h
      · rw [Wl_past h0 hs t (by omega)]
        exact h

theorem equal_parts (l : List level_Part) : slices_Equal_Llevel_Part_level_Part l l = some true := by
  unfold slices_Equal_Llevel_Part_level_Part
  simp only [bne_self_eq_false, Bool.false_eq_true, if_false]
  obtain ⟨t, ht, hI⟩ := rangeB_inv (R := Bool) (b := fun k9 (_ : Unit) => Option.bind (idx l (k9 : Int)) fun x29 => Option.bind (idx l (k9 : Int)) fun x34 => if (!((x29.span.from_ == x34.span.from_ && (x29.span.to_ == x34.span.to_)) && (x29.what == x34.what))) = true then some (.rt false) else some (.nx ())) l.length (fun _ _ => True) (s := ()) trivial (by
    intro k _ hk _
    have hx := List.getElem?_eq_getElem hk
    exact ⟨(), by simp [idx_nat, hx], trivial⟩)
  rw [ht]
  rfl

set_option maxHeartbeats 1000000 in
theorem explains_true (c : level_Clock) (cals : List cal_Calendar) (m : Int) : portlaw2_ClockExplains c cals m = some true := by
  obtain ⟨r, a1, b1, c1⟩ := check_eq [c] cals
  unfold portlaw2_ClockExplains level_Explain portref2_ExplainOf
  simp only [a1, b1, Option.bind_some, or_two]
  by_cases hr : r = 0
  rotate_left
  · have : (r != 0) = true := by simpa using hr
    simp [hr, equal_parts]
  have hok := c1 hr
  subst hr
  have hc := hok.clocks c (by simp)
  have hs := hok.sorted (c := c) (by simp)
  have hn := hok.ncal
  have hst := hc.start
  simp only [ne_eq, not_true, if_false, bne_self_eq_false, Bool.false_eq_true]
  by_cases hm : c.start ≤ m ∧ m ≤ 3000000
  rotate_left
  · have e1 : level_moment m c.start = 2 := by
      have : level_within m c.start 3000000 = false := by simp [level_within]; omega
      simp [level_moment, this]
    have e2 : ((!(portref2_IsMoment m)) || (decide (m < c.start))) = true := by simp [portref2_IsMoment]; omega
    simp [e1, e2, equal_parts]
  have e1 : level_moment m c.start = 0 := by
    have : level_within m c.start 3000000 = true := by simp [level_within]; omega
    simp [level_moment, this]
  have e2 : ((!(portref2_IsMoment m)) || (decide (m < c.start))) = false := by simp [portref2_IsMoment]; omega
  simp only [e1, e2, bne_self_eq_false, Bool.false_eq_true, if_false, meter_val cals (by omega), Option.bind_some]
  -- the last moment
  have hstop := hc.stop
  obtain ⟨q, eq1, eq2, q1, q2⟩ : ∃ q, (if (c.stop != (-1)) = true then some (if c.stop < m then c.stop else m) else some m) = some q ∧ (if (decide ((0 : Int) ≤ c.stop)) = true then some (if c.stop < m then c.stop else m) else some m) = some q ∧ c.start ≤ q ∧ q ≤ 3000000 := by
    by_cases h : c.stop = -1
    · have : ¬ (0 : Int) ≤ c.stop := by omega
      exact ⟨m, by simp [h], by simp [this], hm.1, hm.2⟩
    · have : (0 : Int) ≤ c.stop := by omega
      refine ⟨if c.stop < m then c.stop else m, by simp [h], by simp [this], ?_, ?_⟩
      · split <;> omega
      · split <;> omega
  rw [eq1, eq2]
  simp only [Option.bind_some]
  -- the program
  obtain ⟨n1, p1, p2, p3⟩ := pieces_loop (cals := cals) (Wl cals c.pieces) c.start q hst.1 q2 (fun _ => exBody cals q) (fun _ _ _ => rfl) c.pieces 0 c.start 0 hst.1 hs (by rw [if_pos q1]; simp) q1 (fun _ _ _ => rfl)
  simp only [Int.natCast_zero, Int.add_zero, runP] at p1
  rw [rangeB_forL c.pieces (R := List level_Part × Int) (fun _ => exBody cals q) _ (fun j s x hx => by simp only [idx_nat, hx, Option.bind_some]; rfl) (c.start, []), p1]
  simp only [Option.bind_some, Lp.andThen_fin]
  obtain ⟨n2, p4, p5⟩ := upTo_val (Wl cals c.pieces) c.start q hst.1 q2 n1 (by omega) q 3 (fun u g1 g2 => p3 u g1 (by simpa using g2))
  have p5' : c.start + (n2 : Int) = q := by rw [p5]; simp; omega
  rw [p4]
  simp only [Option.bind_some]
  -- the reference
  obtain ⟨r, hr, hR⟩ := whileB_spec (R := List level_Part × Int) (body := fun s60 => if (decide (s60.2 < q)) = true then Option.bind (Option.bind (rangeB (R := Empty) (fun k91 s97 => Option.bind (Option.bind (idx c.pieces (k91 : Int)) fun x118 => Option.bind (if ((decide (x118.from_ ≤ s60.2)) && ((decide (x118.to_ < 0)) || (decide (s60.2 < x118.to_)))) = true then Option.bind (idx (⟨cals⟩ : portref2_meter).clocks x118.calendar) fun x148 => Option.bind (portref2_Clock_Open x148 s60.2) fun x157 => Option.bind (if x157 = true then some 1 else some 2) fun s163 => some s163 else some s97) fun s139 => some s139) fun s111 => some (.nx s111)) c.pieces.length 0 3) fun o88 => o88.andThen (fun y => y.elim) fun s89 => Option.bind (if (decide ((0 : Int) < (s60.1.length : Int))) = true then (Option.bind (idx s60.1 (w64 ((s60.1.length : Int) - 1))) fun x179 => some (x179.what == s89)) else (some false)) fun s178 => Option.bind (if s178 = true then Option.bind (idx s60.1 (w64 ((s60.1.length : Int) - 1))) fun x196 => Option.bind (setI s60.1 (w64 ((s60.1.length : Int) - 1)) ({ (x196 : level_Part) with span := { (x196.span : cal_Span) with to_ := w64 (x196.span.to_ + 1) } })) fun x209 => some x209 else Option.bind (appendL 5864062014805 s60.1 ([(⟨(⟨s60.2, w64 (s60.2 + 1)⟩ : cal_Span), s89⟩ : level_Part)] : List level_Part)) fun x219 => some x219) fun s186 => some s186) fun s75 => some (.nx (s75, w64 (s60.2 + 1))) else some (.bk (s60.1, s60.2))) (s := (([] : (List level_Part)), c.start)) (fun s => ∃ n : Nat, s = (runP (Wl cals c.pieces) c.start n, c.start + n) ∧ c.start + n ≤ q) (fun s => (q - s.2).toNat) (fun r => r = .fin (runP (Wl cals c.pieces) c.start n2, q)) ⟨0, by simp [runP], by simpa using q1⟩ (by
    rintro _ ⟨n, rfl, hnq⟩
    simp only
    by_cases hlt : c.start + (n : Int) < q
    · simp only [hlt, decide_true, if_true]
      obtain ⟨w, ew, hw⟩ := what_loop (cals := cals) (c.start + n) (by omega) (by omega) (fun _ => whatBody cals (c.start + n)) (fun _ _ _ => rfl) c.pieces 0 c.start 3 hst.1 hs
      have hww : w = Wl cals c.pieces (c.start + n) := by rcases hw with ⟨h1, h2⟩ | ⟨h1, h2⟩ <;> omega
      rw [rangeB_forL c.pieces (R := Empty) (fun _ => whatBody cals (c.start + n)) _ (fun j s x hx => by simp only [idx_nat, hx, Option.bind_some]; rfl) 3, ew]
      simp only [Option.bind_some, Lp.andThen_fin]
      have hl := run_len (Wl cals c.pieces) c.start n
      rw [w64_id (n := c.start + n + 1) (by omega) (by omega)]
      rw [upd_val (runP (Wl cals c.pieces) c.start n) (c.start + n) (c.start + n + 1) w (fun x196 => { (x196 : level_Part) with span := { (x196.span : cal_Span) with to_ := w64 (x196.span.to_ + 1) } }) (fun p hp => by
        have := run_last (Wl cals c.pieces) c.start n p hp
        simp only [this]
        rw [w64_id (by omega) (by omega)]) (by omega)]
      simp only [Option.bind_some]
      refine ⟨_, rfl, ⟨n + 1, ?_, by omega⟩, by simp only; omega⟩
      rw [hww]
      show (_, _) = (extP _ _ _ _, _)
      congr 1
      omega
    · simp only [hlt, decide_false, Bool.false_eq_true, if_false]
      have : n = n2 := by omega
      subst this
      exact ⟨_, rfl, by rw [p5']⟩)
  rw [hr, hR]
  simp [Lp.andThen, equal_parts]
end Go.Proofs.Ytpfoimbklbkcpaa.M
