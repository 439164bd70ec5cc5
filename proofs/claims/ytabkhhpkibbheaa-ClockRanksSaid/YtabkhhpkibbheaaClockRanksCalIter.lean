import Derived.Test.YtabkhhpkibbheaaClockRanksCalDays
namespace Go.Proofs.Ytabkhhpkibbheaa.M
open Go Go.Pu
set_option linter.unusedSimpArgs false
set_option linter.unusedVariables false
def prt (z : cal_Zone) (k : Nat) : cal_part := ⟨fr z k, fr z (k + 1), ofs z k⟩
theorem parts_val (z : cal_Zone) (h60 : z.changes.length ≤ 60) : cal_Zone_parts z = some ((List.range (z.changes.length + 1)).map (prt z)) := by
 unfold cal_Zone_parts
 obtain ⟨t, h, rfl⟩ := rangeB_inv (R := List cal_part) (b := fun k24 s32 => Option.bind (idx z.changes (k24 : Int)) fun x47 => Option.bind (idx s32 (w64 ((s32.length : Int) - 1))) fun x61 => Option.bind (setI s32 (w64 ((s32.length : Int) - 1)) ({ (x61 : cal_part) with to_ := x47.at_ })) fun x67 => Option.bind (appendL 5864062014805 x67 ([(⟨x47.at_, 3000001, x47.offset⟩ : cal_part)] : List cal_part)) fun x78 => some (.nx x78)) z.changes.length
  (fun k s => s = (List.range k).map (prt z) ++ [⟨fr z k, 3000001, ofs z k⟩]) (s := [(⟨0, 3000001, z.offset⟩ : cal_part)]) rfl (by
   rintro k _ hk rfl
   have hc : z.changes[k]? = some z.changes[k] := List.getElem?_eq_getElem hk
   rw [idx_lt _ _ hk]
   generalize z.changes[k] = c at hc
   have hlen : (((List.range k).map (prt z) ++ [(⟨fr z k, 3000001, ofs z k⟩ : cal_part)]).length : Int) - 1 = (k : Int) := by simp
   have hw : w64 ((((List.range k).map (prt z) ++ [(⟨fr z k, 3000001, ofs z k⟩ : cal_part)]).length : Int) - 1) = (k : Int) := by rw [hlen]; exact w64_id (by omega) (by omega)
   rw [hw, idx_nat]
   have hg : ((List.range k).map (prt z) ++ [(⟨fr z k, 3000001, ofs z k⟩ : cal_part)])[k]? = some ⟨fr z k, 3000001, ofs z k⟩ := by
    rw [List.getElem?_append_right (by simp)]
    simp
   rw [hg]
   have hs : setI ((List.range k).map (prt z) ++ [(⟨fr z k, 3000001, ofs z k⟩ : cal_part)]) (k : Int) (⟨fr z k, c.at_, ofs z k⟩ : cal_part) = some ((List.range k).map (prt z) ++ [(⟨fr z k, c.at_, ofs z k⟩ : cal_part)]) := by
    rw [setI, if_pos ⟨by omega, by simp⟩]
    congr 1
    rw [Int.toNat_natCast, List.set_append_right _ _ (by simp)]
    simp
   simp only [Option.bind_some, hs]
   have ha : appendL 5864062014805 ((List.range k).map (prt z) ++ [(⟨fr z k, c.at_, ofs z k⟩ : cal_part)]) [(⟨c.at_, 3000001, c.offset⟩ : cal_part)] = some (((List.range k).map (prt z) ++ [(⟨fr z k, c.at_, ofs z k⟩ : cal_part)]) ++ [(⟨c.at_, 3000001, c.offset⟩ : cal_part)]) := by
    rw [appendL, if_pos (by simp; omega)]
   rw [ha]
   refine ⟨_, rfl, ?_⟩
   have e1 : fr z (k + 1) = c.at_ := by rw [fr, hc]
   have e2 : ofs z (k + 1) = c.offset := by rw [ofs, hc]
   rw [List.range_succ, List.map_append, e1, e2]
   simp [prt, e1])
 rw [h]
 simp only [Option.bind_some, Lp.andThen_fin]
 congr 1
 rw [List.range_succ, List.map_append]
 simp [prt, fr_last]
def iterB {X S : Type} (y : X → S → Option (Bool × S)) : List X → S → Option (Bool × S)
 | [], s => some (true, s)
 | x :: l, s => Option.bind (y x s) fun r => if r.1 = true then iterB y l r.2 else some (false, r.2)
theorem iterB_append {X S : Type} (y : X → S → Option (Bool × S)) (l m : List X) (s : S) : iterB y (l ++ m) s = Option.bind (iterB y l s) fun r => if r.1 = true then iterB y m r.2 else some (false, r.2) := by
 induction l generalizing s with
 | nil => simp [iterB]
 | cons x l ih =>
  rw [List.cons_append, iterB, iterB]
  cases y x s with
  | none => rfl
  | some r =>
   simp only [Option.bind_some]
   by_cases h : r.1 = true
   ·rw [if_pos h, if_pos h, ih]
   ·rw [if_neg h, if_neg h]; simp
theorem whileB_eq {S R : Type} (body : S → Option (Ctl S R)) (s : S) : whileB body s = Option.bind (body s) fun x => match x with
  | .nx s' => whileB body s'
  | .bk s' => some (.fin s')
  | .rt r => some (.rt r) := by
 ext r
 rw [whileB_iff]
 constructor
 ·rintro ⟨n, hn⟩
  cases n with
  | zero => simp [whileN] at hn
  | succ n =>
   rw [whileN] at hn
   cases hb : body s with
   | none => rw [hb] at hn; cases hn
   | some x =>
    rw [hb] at hn
    cases x with
    | nx s' => exact whileB_iff.2 ⟨n, hn⟩
    | bk s' => exact hn
    | rt r => exact hn
 ·intro h
  cases hb : body s with
  | none => rw [hb] at h; cases h
  | some x =>
   rw [hb] at h
   cases x with
   | nx s' =>
    obtain ⟨n, hn⟩ := whileB_iff.1 h
    exact ⟨n + 1, by rw [whileN, hb]; exact hn⟩
   | bk s' => exact ⟨1, by rw [whileN, hb]; exact h⟩
   | rt r => exact ⟨1, by rw [whileN, hb]; exact h⟩
def spanOf (o a b day : Int) (s : cal_Shift) : cal_Span := ⟨if a < day * 1440 - o + s.from_ then day * 1440 - o + s.from_ else a, if day * 1440 - o + s.to_ < b then day * 1440 - o + s.to_ else b⟩
def visitL (c : cal_Calendar) (o a b day : Int) : List cal_Span := ((daySh c day).map (spanOf o a b day)).filter fun x => decide (x.from_ < x.to_)
theorem visit_val {c : cal_Calendar} (hc : CalOk c) (p : cal_part) (a b day : Int) {S : Type} (y : cal_Span → S → Option (Bool × S)) (s : S) (h : -10000 ≤ day) (h' : day ≤ 10000) (ho : -1440 ≤ p.offset ∧ p.offset ≤ 1440) :
  cal_Calendar_shifts_1_1 day c p a b y s = iterB y (visitL c p.offset a b day) s := by
 unfold cal_Calendar_shifts_1_1 visitL
 rw [shiftsOf_val hc day (by omega) (by omega)]
 have hok := (daySh_ok hc day).1
 simp only [Option.bind_some]
 rw [w64_id (n := day * 1440) (by omega) (by omega), w64_id (n := day * 1440 - p.offset) (by omega) (by omega)]
 generalize daySh c day = l at hok
 rw [rangeB_forL l (fun _ x25 s25 => Option.bind (if (decide ((spanOf p.offset a b day x25).from_ < (spanOf p.offset a b day x25).to_)) = true then (Option.bind (y (spanOf p.offset a b day x25) s25) fun x75 => some (!x75.1, x75.2)) else (some (false, s25))) fun s64 => if s64.1 = true then some (.rt (false, s64.2)) else some (.nx s64.2)) _ (by
  intro k s25 x hx
  obtain ⟨o1, o2, o3, o4⟩ := hok x (List.mem_of_getElem? hx)
  simp only [idx_nat, hx, Option.bind_some]
  rw [w64_id (n := day * 1440 - p.offset + x.from_) (by omega) (by omega), w64_id (n := day * 1440 - p.offset + x.to_) (by omega) (by omega)]
  rfl)]
 clear hok
 generalize 0 = k
 induction l generalizing k s with
 | nil => rfl
 | cons x l ih =>
  rw [forL, List.map_cons]
  by_cases hx : (spanOf p.offset a b day x).from_ < (spanOf p.offset a b day x).to_
  ·rw [List.filter_cons_of_pos (by simpa using hx), iterB]
   simp only [hx, decide_true, if_true]
   cases y (spanOf p.offset a b day x) s with
   | none => rfl
   | some r =>
    obtain ⟨r1, r2⟩ := r
    cases r1 with
    | true =>
     simp only [Option.bind_some, Bool.not_true, Bool.false_eq_true, if_false, if_true]
     exact ih r2 (k + 1)
    | false => simp [Lp.andThen]
  ·rw [List.filter_cons_of_neg (by simpa using hx)]
   simp only [hx, decide_false, Bool.false_eq_true, if_false, Option.bind_some]
   exact ih s (k + 1)
def daysL (c : cal_Calendar) (o a b : Int) : Int → Nat → List cal_Span
 | _, 0 => []
 | d, n + 1 => visitL c o a b d ++ daysL c o a b (d + 1) n
theorem days_val {c : cal_Calendar} (hc : CalOk c) (p : cal_part) (a b hi : Int) {S : Type} (y : cal_Span → S → Option (Bool × S)) (ho : -1440 ≤ p.offset ∧ p.offset ≤ 1440) (hb : 0 ≤ b ∧ b ≤ 4000000) (hhi : hi = (b - 1 + p.offset) / 1440) :
  ∀ (n : Nat) (d : Int) (s : S), -5000 ≤ d → d + n = hi + 1 →
   whileB (fun s93 => Option.bind (cal_floor (w64 ((w64 (b - 1)) + p.offset)) 1440) fun x105 => if (decide (s93.1 ≤ x105)) = true then Option.bind (cal_Calendar_shifts_1_1 s93.1 c p a b y s93.2) fun x107 => if (!x107.1) = true then some (.rt x107.2) else some (.nx (w64 (s93.1 + 1), x107.2)) else some (.bk (s93.1, s93.2))) (d, s) =
    Option.bind (iterB y (daysL c p.offset a b d n) s) fun r => some (if r.1 = true then Lp.fin (hi + 1, r.2) else Lp.rt r.2) := by
 have hf : cal_floor (w64 ((w64 (b - 1)) + p.offset)) 1440 = some hi := by
  rw [w64_id (n := b - 1) (by omega) (by omega), w64_id (by omega) (by omega), floor1440 _ (by omega) (by omega), hhi]
 simp only [hf, Option.bind_some]
 intro n
 induction n with
 | zero =>
  intro d s hd hn
  rw [whileB_eq]
  have : ¬ d ≤ hi := by omega
  simp only [this, decide_false, Bool.false_eq_true, if_false, daysL, iterB, Option.bind_some, if_true]
  rw [show d = hi + 1 by omega]
 | succ n ih =>
  intro d s hd hn
  rw [whileB_eq]
  have : d ≤ hi := by omega
  simp only [this, decide_true, if_true]
  rw [visit_val hc p a b d y s (by omega) (by omega) ho, daysL, iterB_append]
  cases iterB y (visitL c p.offset a b d) s with
  | none => rfl
  | some r =>
   obtain ⟨r1, r2⟩ := r
   cases r1 with
   | true =>
    simp only [Option.bind_some, Bool.not_true, Bool.false_eq_true, if_false, if_true]
    rw [w64_id (by omega) (by omega)]
    exact ih (d + 1) r2 (by omega) (by omega)
   | false => simp
def partAB (c : cal_Calendar) (o a b : Int) : List cal_Span := if b ≤ a then [] else daysL c o a b ((a + o) / 1440 - 1) (((b - 1 + o) / 1440 - (a + o) / 1440 + 2).toNat)
def partL (c : cal_Calendar) (from_ to_ : Int) (p : cal_part) : List cal_Span := partAB c p.offset (if from_ < p.from_ then p.from_ else from_) (if p.to_ < to_ then p.to_ else to_)
def shL (c : cal_Calendar) (from_ to_ : Int) : List cal_Span := ((List.range (c.zone.changes.length + 1)).map (prt c.zone)).flatMap (partL c from_ to_)
theorem shifts_val {c : cal_Calendar} (hc : CalOk c) (from_ to_ : Int) (hf : 0 ≤ from_ ∧ from_ ≤ 3000001) (ht : 0 ≤ to_ ∧ to_ ≤ 3000001) {S : Type} (y : cal_Span → S → Option (Bool × S)) (s : S) :
  cal_Calendar_shifts_1 y s c from_ to_ = (iterB y (shL c from_ to_) s).map (·.2) := by
 unfold cal_Calendar_shifts_1 shL
 rw [parts_val _ hc.changes]
 simp only [Option.bind_some]
 have hp : ∀ p ∈ (List.range (c.zone.changes.length + 1)).map (prt c.zone), (0 ≤ p.from_ ∧ p.from_ ≤ 3000001) ∧ (0 ≤ p.to_ ∧ p.to_ ≤ 3000001) ∧ (-1440 ≤ p.offset ∧ p.offset ≤ 1440) := by
  intro p hp
  obtain ⟨k, hk, rfl⟩ := List.mem_map.1 hp
  have hk' := List.mem_range.1 hk
  exact ⟨fr_range hc.zone k (by omega), fr_range hc.zone (k + 1) (by omega), ofs_bound hc.zone k⟩
 generalize (List.range (c.zone.changes.length + 1)).map (prt c.zone) = l at hp
 rw [rangeB_forL l (fun _ x s => Option.bind (iterB y (partL c from_ to_ x) s) fun r => if r.1 = true then some (.nx r.2) else some (.rt r.2)) _ (by
  intro k s28 x hx
  obtain ⟨p1, p2, p3⟩ := hp x (List.mem_of_getElem? hx)
  simp only [idx_nat, hx, Option.bind_some, partL, partAB]
  by_cases hle : (if x.to_ < to_ then x.to_ else to_) ≤ (if from_ < x.from_ then x.from_ else from_)
  ·simp only [hle, decide_true, if_true, Option.bind_some, Lp.andThen_fin, iterB]
  ·simp only [hle, decide_false, Bool.false_eq_true, if_false]
   generalize hga : (if from_ < x.from_ then x.from_ else from_) = a at hle
   generalize hgb : (if x.to_ < to_ then x.to_ else to_) = b at hle
   have ha : 0 ≤ a ∧ a ≤ 3000001 := by split at hga <;> omega
   have hb : 0 ≤ b ∧ b ≤ 3000001 := by split at hgb <;> omega
   rw [w64_id (n := a + x.offset) (by omega) (by omega), floor1440 _ (by omega) (by omega)]
   simp only [Option.bind_some]
   rw [w64_id (n := (a + x.offset) / 1440 - 1) (by omega) (by omega)]
   rw [days_val hc x a b ((b - 1 + x.offset) / 1440) y p3 (by omega) rfl (((b - 1 + x.offset) / 1440 - (a + x.offset) / 1440 + 2).toNat) ((a + x.offset) / 1440 - 1) s28 (by omega) (by omega)]
   cases iterB y (daysL c x.offset a b ((a + x.offset) / 1440 - 1) (((b - 1 + x.offset) / 1440 - (a + x.offset) / 1440 + 2).toNat)) s28 with
   | none => rfl
   | some r =>
    obtain ⟨r1, r2⟩ := r
    cases r1 <;> simp [Lp.andThen])]
 clear hp
 generalize 0 = k
 induction l generalizing k s with
 | nil => rfl
 | cons x l ih =>
  rw [forL, List.flatMap_cons, iterB_append]
  cases iterB y (partL c from_ to_ x) s with
  | none => rfl
  | some r =>
   obtain ⟨r1, r2⟩ := r
   cases r1 with
   | true =>
    simp only [Option.bind_some, if_true]
    exact ih r2 (k + 1)
   | false => simp [Lp.andThen]
theorem days_mem (c : cal_Calendar) (o a b : Int) (x : cal_Span) : ∀ (n : Nat) (d : Int), x ∈ daysL c o a b d n ↔ ∃ day s, d ≤ day ∧ day < d + n ∧ s ∈ daySh c day ∧ x = spanOf o a b day s ∧ x.from_ < x.to_
 | 0, d => by
  simp only [daysL, List.not_mem_nil, false_iff]
  rintro ⟨day, s, h1, h2, _⟩
  omega
 | n + 1, d => by
  rw [daysL, List.mem_append, days_mem c o a b x n (d + 1)]
  simp only [visitL, List.mem_filter, List.mem_map, decide_eq_true_eq]
  constructor
  ·rintro (⟨⟨s, hs, rfl⟩, h⟩ | ⟨day, s, h1, h2, h3, h4, h5⟩)
   ·exact ⟨d, s, by omega, by omega, hs, rfl, h⟩
   ·exact ⟨day, s, by omega, by omega, h3, h4, h5⟩
  ·rintro ⟨day, s, h1, h2, h3, rfl, h5⟩
   by_cases hd : day = d
   ·subst hd
    exact .inl ⟨⟨s, h3, rfl⟩, h5⟩
   ·exact .inr ⟨day, s, by omega, by omega, h3, rfl, h5⟩
theorem days_sorted {c : cal_Calendar} (hc : CalOk c) (o a b : Int) : ∀ (n : Nat) (d : Int), (daysL c o a b d n).Pairwise fun x y => x.from_ ≤ y.from_
 | 0, d => .nil
 | n + 1, d => by
  rw [daysL, List.pairwise_append]
  refine ⟨?_, days_sorted hc o a b n (d + 1), ?_⟩
  ·unfold visitL
   refine List.Pairwise.filter _ (List.pairwise_map.2 ((daySh_ok hc d).2.1.imp fun {s t} h => ?_))
   simp only [spanOf]
   split <;> split <;> omega
  ·intro x hx y hy
   simp only [visitL, List.mem_filter, List.mem_map] at hx
   obtain ⟨⟨s, hs, rfl⟩, _⟩ := hx
   obtain ⟨day, t, h1, _, h3, rfl, _⟩ := (days_mem c o a b y n (d + 1)).1 hy
   have o1 := (daySh_ok hc d).1 s hs
   have o2 := (daySh_ok hc day).1 t h3
   obtain ⟨q1, q2, q3, q4⟩ := o1
   obtain ⟨u1, u2, u3, u4⟩ := o2
   simp only [spanOf]
   split <;> split <;> omega
theorem part_mem {c : cal_Calendar} (hc : CalOk c) (from_ to_ : Int) (p : cal_part) (x : cal_Span) (h : x ∈ partL c from_ to_ p) : from_ ≤ x.from_ ∧ p.from_ ≤ x.from_ ∧ x.from_ < x.to_ ∧ x.to_ ≤ to_ ∧ x.to_ ≤ p.to_ ∧ ∃ day s, s ∈ daySh c day ∧ day * 1440 - p.offset + s.from_ ≤ x.from_ ∧ x.to_ ≤ day * 1440 - p.offset + s.to_ := by
 unfold partL at h
 generalize hga : (if from_ < p.from_ then p.from_ else from_) = a at h
 generalize hgb : (if p.to_ < to_ then p.to_ else to_) = b at h
 have ha : from_ ≤ a ∧ p.from_ ≤ a := by split at hga <;> omega
 have hb : b ≤ to_ ∧ b ≤ p.to_ := by split at hgb <;> omega
 unfold partAB at h
 by_cases hba : b ≤ a
 ·rw [if_pos hba] at h; simp at h
 ·rw [if_neg hba] at h
  obtain ⟨day, s, h1, h2, h3, rfl, h5⟩ := (days_mem ..).1 h
  have q : a ≤ (spanOf p.offset a b day s).from_ ∧ (spanOf p.offset a b day s).to_ ≤ b ∧ day * 1440 - p.offset + s.from_ ≤ (spanOf p.offset a b day s).from_ ∧ (spanOf p.offset a b day s).to_ ≤ day * 1440 - p.offset + s.to_ := by
   simp only [spanOf]
   refine ⟨by split <;> omega, by split <;> omega, by split <;> omega, by split <;> omega⟩
  exact ⟨by omega, by omega, h5, by omega, by omega, day, s, h3, q.2.2.1, q.2.2.2⟩
theorem part_at {z : cal_Zone} (hz : ZoneOk z) (m : Int) (h0 : 0 ≤ m) (h1 : m < 3000001) : ∃ k, k ≤ z.changes.length ∧ fr z k ≤ m ∧ m < fr z (k + 1) := by
 have key : ∀ n, n ≤ z.changes.length + 1 → m < fr z n → ∃ k, k < n ∧ fr z k ≤ m ∧ m < fr z (k + 1) := by
  intro n
  induction n with
  | zero => intro _ h; simp only [fr] at h; omega
  | succ n ih =>
   intro hn h
   rcases Int.lt_or_le m (fr z n) with h2 | h2
   ·obtain ⟨k, h3, h4⟩ := ih (by omega) h2
    exact ⟨k, by omega, h4⟩
   ·exact ⟨n, by omega, h2, h⟩
 obtain ⟨k, h2, h3⟩ := key (z.changes.length + 1) (Nat.le_refl _) (by rw [fr_last]; exact h1)
 exact ⟨k, by omega, h3⟩
theorem sh_spec {c : cal_Calendar} (hc : CalOk c) (from_ to_ : Int) (hf : 0 ≤ from_ ∧ from_ ≤ 3000001) (ht : 0 ≤ to_ ∧ to_ ≤ 3000001) :
  (∀ x ∈ shL c from_ to_, from_ ≤ x.from_ ∧ x.from_ < x.to_ ∧ x.to_ ≤ to_) ∧ (shL c from_ to_).Pairwise (fun x y => x.from_ ≤ y.from_) ∧
   ∀ m, from_ ≤ m → m < to_ → (Opn c m ↔ ∃ x ∈ shL c from_ to_, x.from_ ≤ m ∧ m < x.to_) := by
 refine ⟨fun x hx => ?_, ?_, fun m h1 h2 => ⟨?_, ?_⟩⟩
 ·obtain ⟨p, hp, hx⟩ := List.mem_flatMap.1 hx
  obtain ⟨q1, q2, q3, q4, _⟩ := part_mem hc from_ to_ p x hx
  exact ⟨q1, q3, q4⟩
 ·unfold shL
  rw [List.pairwise_flatMap]
  refine ⟨fun p _ => ?_, ?_⟩
  ·unfold partL partAB
   generalize (if p.to_ < to_ then p.to_ else to_) = b
   generalize (if from_ < p.from_ then p.from_ else from_) = a
   split
   ·exact .nil
   ·exact days_sorted hc _ _ _ _ _
  ·refine List.pairwise_map.2 (List.Pairwise.imp_of_mem ?_ List.pairwise_lt_range)
   intro j k hj hk hjk x hx y hy
   obtain ⟨_, _, q3, _, q5, _⟩ := part_mem hc from_ to_ _ x hx
   obtain ⟨_, u2, _⟩ := part_mem hc from_ to_ _ y hy
   have hk' := List.mem_range.1 hk
   have := fr_le hc.zone (j + 1) (k - (j + 1)) (by omega)
   rw [show j + 1 + (k - (j + 1)) = k by omega] at this
   simp only [prt] at q5 u2
   omega
 ·rintro ⟨day, s, hs, q1, q2⟩
  obtain ⟨k, hk, k1, k2⟩ := part_at hc.zone m (by omega) (by omega)
  rw [off_part hc.zone k hk m k1 k2] at q1 q2
  obtain ⟨o1, o2, o3, o4⟩ := (daySh_ok hc day).1 s hs
  have hb := ofs_bound hc.zone k
  have hr := fr_range hc.zone k (by omega)
  have hr1 := fr_range hc.zone (k + 1) (by omega)
  generalize hga : (if from_ < fr c.zone k then fr c.zone k else from_) = a
  generalize hgb : (if fr c.zone (k + 1) < to_ then fr c.zone (k + 1) else to_) = b
  have ha : a ≤ m ∧ 0 ≤ a := by split at hga <;> omega
  have hb2 : m < b ∧ b ≤ 3000001 := by split at hgb <;> omega
  refine ⟨spanOf (ofs c.zone k) a b day s, List.mem_flatMap.2 ⟨prt c.zone k, List.mem_map.2 ⟨k, List.mem_range.2 (by omega), rfl⟩, ?_⟩, ?_, ?_⟩
  ·show spanOf (ofs c.zone k) a b day s ∈ partAB c (ofs c.zone k) (if from_ < fr c.zone k then fr c.zone k else from_) (if fr c.zone (k + 1) < to_ then fr c.zone (k + 1) else to_)
   rw [hga, hgb, partAB, if_neg (by omega)]
   refine (days_mem ..).2 ⟨day, s, by omega, by omega, hs, rfl, ?_⟩
   simp only [spanOf]
   split <;> split <;> omega
  ·simp only [spanOf]
   split <;> omega
  ·simp only [spanOf]
   split <;> omega
 ·rintro ⟨x, hx, q1, q2⟩
  obtain ⟨p, hp, hx⟩ := List.mem_flatMap.1 hx
  obtain ⟨k, hk, rfl⟩ := List.mem_map.1 hp
  have hk' := List.mem_range.1 hk
  obtain ⟨p1, p2, p3, p4, p5, day, s, hs, p6, p7⟩ := part_mem hc from_ to_ _ x hx
  simp only [prt] at p2 p5 p6 p7
  refine ⟨day, s, hs, ?_, ?_⟩
  ·rw [off_part hc.zone k (by omega) m (by omega) (by omega)]; omega
  ·rw [off_part hc.zone k (by omega) m (by omega) (by omega)]; omega
def mergeL : cal_Span → List cal_Span → List cal_Span
 | last, [] => [last]
 | last, x :: l => if x.from_ ≤ last.to_ then mergeL ⟨last.from_, if last.to_ < x.to_ then x.to_ else last.to_⟩ l else last :: mergeL x l
def mergeA : List cal_Span → List cal_Span
 | [] => []
 | x :: l => mergeL x l
structure Apart (O : Int → Prop) (from_ to_ : Int) (l : List cal_Span) : Prop where
 each : ∀ x ∈ l, from_ ≤ x.from_ ∧ x.from_ < x.to_ ∧ x.to_ ≤ to_
 apart : l.Pairwise fun x y => x.to_ < y.from_
 all : ∀ m, from_ ≤ m → m < to_ → (O m ↔ ∃ x ∈ l, x.from_ ≤ m ∧ m < x.to_)
theorem merge_spec (from_ to_ : Int) : ∀ (l : List cal_Span) (last : cal_Span), (∀ x ∈ last :: l, from_ ≤ x.from_ ∧ x.from_ < x.to_ ∧ x.to_ ≤ to_) → (last :: l).Pairwise (fun x y => x.from_ ≤ y.from_) →
  (∀ x ∈ mergeL last l, last.from_ ≤ x.from_ ∧ x.from_ < x.to_ ∧ x.to_ ≤ to_) ∧ (mergeL last l).Pairwise (fun x y => x.to_ < y.from_) ∧
   (∀ m, (∃ x ∈ last :: l, x.from_ ≤ m ∧ m < x.to_) ↔ ∃ x ∈ mergeL last l, x.from_ ≤ m ∧ m < x.to_)
 | [], last, h, _ => by
  refine ⟨fun x hx => ?_, by simp [mergeL], fun m => by simp [mergeL]⟩
  simp only [mergeL, List.mem_singleton] at hx
  subst hx
  have := h x (by simp)
  omega
 | x :: l, last, h, hs => by
  have h1 := h last (by simp)
  have h2 := h x (by simp)
  obtain ⟨hs1, hs2⟩ := List.pairwise_cons.1 hs
  obtain ⟨hs3, hs4⟩ := List.pairwise_cons.1 hs2
  have h3 := hs1 x (by simp)
  rw [mergeL]
  split
  ·rename_i hle
   obtain ⟨q1, q2, q3⟩ := merge_spec from_ to_ l ⟨last.from_, if last.to_ < x.to_ then x.to_ else last.to_⟩ (fun y hy => by
    rcases List.mem_cons.1 hy with rfl | hy
    ·simp only
     split <;> omega
    ·exact h y (by simp [hy])) (List.pairwise_cons.2 ⟨fun y hy => by
     have := hs1 y (by simp [hy])
     exact this, hs4⟩)
   refine ⟨q1, q2, fun m => ?_⟩
   rw [← q3 m]
   constructor
   ·rintro ⟨y, hy, u1, u2⟩
    rcases List.mem_cons.1 hy with rfl | hy
    ·exact ⟨_, List.mem_cons_self, u1, by simp only; split <;> omega⟩
    ·rcases List.mem_cons.1 hy with rfl | hy
     ·exact ⟨_, List.mem_cons_self, by simp only; omega, by simp only; split <;> omega⟩
     ·exact ⟨y, List.mem_cons_of_mem _ hy, u1, u2⟩
   ·rintro ⟨y, hy, u1, u2⟩
    rcases List.mem_cons.1 hy with rfl | hy
    ·simp only at u1 u2
     by_cases hm : m < last.to_
     ·exact ⟨last, by simp, u1, hm⟩
     ·refine ⟨x, by simp, by omega, ?_⟩
      split at u2 <;> omega
    ·exact ⟨y, by simp [hy], u1, u2⟩
  ·rename_i hle
   obtain ⟨q1, q2, q3⟩ := merge_spec from_ to_ l x (fun y hy => h y (by simp at hy ⊢; exact .inr hy)) hs2
   refine ⟨fun y hy => ?_, List.pairwise_cons.2 ⟨fun y hy => ?_, q2⟩, fun m => ?_⟩
   ·rcases List.mem_cons.1 hy with rfl | hy
    ·omega
    ·have := q1 y hy; omega
   ·have := q1 y hy; omega
   ·constructor
    ·rintro ⟨y, hy, u1, u2⟩
     rcases List.mem_cons.1 hy with rfl | hy
     ·exact ⟨_, List.mem_cons_self, u1, u2⟩
     ·obtain ⟨z, hz, u3⟩ := (q3 m).1 ⟨y, hy, u1, u2⟩
      exact ⟨z, List.mem_cons_of_mem _ hz, u3⟩
    ·rintro ⟨y, hy, u1, u2⟩
     rcases List.mem_cons.1 hy with rfl | hy
     ·exact ⟨_, List.mem_cons_self, u1, u2⟩
     ·obtain ⟨z, hz, u3⟩ := (q3 m).2 ⟨y, hy, u1, u2⟩
      exact ⟨z, List.mem_cons_of_mem _ hz, u3⟩
def openL (c : cal_Calendar) (from_ to_ : Int) : List cal_Span := mergeA (shL c from_ to_)
theorem open_spec {c : cal_Calendar} (hc : CalOk c) (from_ to_ : Int) (hf : 0 ≤ from_ ∧ from_ ≤ 3000001) (ht : 0 ≤ to_ ∧ to_ ≤ 3000001) : Apart (Opn c) from_ to_ (openL c from_ to_) := by
 obtain ⟨h1, h2, h3⟩ := sh_spec hc from_ to_ hf ht
 unfold openL
 cases hl : shL c from_ to_ with
 | nil =>
  rw [hl] at h3
  exact ⟨fun x hx => by simp [mergeA] at hx, .nil, fun m q1 q2 => by rw [h3 m q1 q2]; simp [mergeA]⟩
 | cons x l =>
  rw [hl] at h1 h2 h3
  obtain ⟨q1, q2, q3⟩ := merge_spec from_ to_ l x h1 h2
  have := h1 x (by simp)
  exact ⟨fun y hy => by have := q1 y hy; omega, q2, fun m u1 u2 => by rw [h3 m u1 u2]; exact q3 m⟩
theorem open_val {c : cal_Calendar} (hc : CalOk c) (from_ to_ : Int) (hf : 0 ≤ from_ ∧ from_ ≤ 3000001) (ht : 0 ≤ to_ ∧ to_ ≤ 3000001) {S : Type} (y : cal_Span → S → Option (Bool × S)) (s : S) :
  cal_Calendar_open_1 y s c from_ to_ = (iterB y (openL c from_ to_) s).map (·.2) := by
 unfold cal_Calendar_open_1 cal_Calendar_shifts
 simp only [Option.bind_some]
 rw [shifts_val hc from_ to_ hf ht]
 obtain ⟨h1, h2, h3⟩ := sh_spec hc from_ to_ hf ht
 unfold openL
 have key : ∀ (l : List cal_Span) (last : cal_Span) (s : S), 0 ≤ last.from_ → (∀ x ∈ l, 0 ≤ x.from_) →
   (Option.bind ((iterB (yieldB (fun (x43 : cal_Span) (s35 : (cal_Span × S)) => Option.bind (α := Lp _ _) (Option.bind (α := Lp _ _) (Option.bind (α := Lp _ _) (if (decide (s35.1.from_ < 0)) = true then some (.fin (x43, s35.2)) else Option.bind (α := Lp _ _) (if (decide (x43.from_ ≤ s35.1.to_)) = true then some (.fin ((⟨s35.1.from_, (if s35.1.to_ < x43.to_ then x43.to_ else s35.1.to_)⟩ : cal_Span), s35.2)) else Option.bind (y s35.1 s35.2) fun x110 => if (!x110.1) = true then some (.rt ((s35.1, x110.2), some 0)) else some (.fin (x43, x110.2))) fun o96 => o96.andThen (fun y => some (.rt y)) fun s97 => some (.fin (s97.1, s97.2))) fun o81 => o81.andThen (fun y => some (.rt y)) fun s82 => some (.fin (s82.1, s82.2))) fun o73 => o73.andThen (fun y => some (.rt y)) fun s74 => some (.fin (s74.1, s74.2))) fun o65 => o65.andThen (fun y => some y) fun s66 => some ((s66.1, s66.2), none))) l ((last, s), none)).map (·.2)) fun z33 =>
    if z33.2 = some 0 then (some z33.1.2) else Option.bind (if (decide ((0 : Int) ≤ z33.1.1.from_)) = true then Option.bind (y z33.1.1 z33.1.2) fun x148 => some x148.2 else some z33.1.2) fun s140 => some s140) = (iterB y (mergeL last l) s).map (·.2) := by
  intro l
  induction l with
  | nil =>
   intro last s hlast _
   simp only [iterB, mergeL, Option.map_some, Option.bind_some, reduceCtorEq, if_false, hlast, decide_true, if_true]
   cases y last s with
   | none => rfl
   | some r =>
    obtain ⟨r1, r2⟩ := r
    cases r1 <;> simp
  | cons x l ih =>
   intro last s hlast hx
   have hn : ¬ last.from_ < 0 := by omega
   have hx0 := hx x (by simp)
   have hl0 : ∀ x ∈ l, 0 ≤ x.from_ := fun z hz => hx z (by simp [hz])
   rw [iterB, mergeL]
   by_cases hle : x.from_ ≤ last.to_
   ·rw [if_pos hle]
    rw [← ih ⟨last.from_, if last.to_ < x.to_ then x.to_ else last.to_⟩ s hlast hl0]
    simp only [yieldB, Option.isNone_none, if_true, hn, decide_false, Bool.false_eq_true, if_false, hle, decide_true, Option.bind_some, Lp.andThen_fin]
   ·rw [if_neg hle]
    conv => rhs; rw [iterB]
    simp only [yieldB, Option.isNone_none, if_true, hn, decide_false, Bool.false_eq_true, if_false, hle, Option.bind_some]
    cases y last s with
    | none => rfl
    | some r =>
     obtain ⟨r1, r2⟩ := r
     cases r1 with
     | true =>
      simp only [Option.bind_some, Bool.not_true, Bool.false_eq_true, if_false, if_true, Lp.andThen_fin, Option.isNone_none]
      exact ih x r2 hx0 hl0
     | false => simp [Lp.andThen]
 cases hl : shL c from_ to_ with
 | nil => simp [iterB, mergeA]
 | cons x l =>
  rw [hl] at h1
  have hx0 := h1 x (by simp)
  have := key l x s (by omega) fun z hz => by have := h1 z (by simp [hz]); omega
  rw [iterB, mergeA, ← this]
  simp [yieldB, Lp.andThen]
end Go.Proofs.Ytabkhhpkibbheaa.M
