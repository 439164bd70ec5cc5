/-
  Lists of spans that lie apart; how many there are: plain part.
-/
import Derived.Test.YtnjlojicebcikaaGreatClockSharesCalIter
namespace Go.Proofs.YtnjlojicebcikaaGreat.M
open Go Go.Pu
set_option linter.unusedSimpArgs false
set_option linter.unusedVariables false

/-- the first span of a list -/
theorem apart_nil {O : Int → Prop} {a b : Int} (h : Apart O a b []) (m : Int) (h1 : a ≤ m) (h2 : m < b) : ¬ O m := by
  rw [h.all m h1 h2]
  simp
theorem apart_cons {O : Int → Prop} {a b : Int} {x : cal_Span} {l : List cal_Span} (h : Apart O a b (x :: l)) : (a ≤ x.from_ ∧ x.from_ < x.to_ ∧ x.to_ ≤ b) ∧ (∀ m, a ≤ m → m < x.from_ → ¬ O m) ∧ (∀ m, x.from_ ≤ m → m < x.to_ → O m) ∧ (x.to_ < b → ¬ O x.to_) := by
  have he := h.each x (by simp)
  have hp := (List.pairwise_cons.1 h.apart).1
  refine ⟨he, fun m h1 h2 => ?_, fun m h1 h2 => (h.all m (by omega) (by omega)).2 ⟨x, by simp, h1, h2⟩, fun h1 => ?_⟩
  · rw [h.all m h1 (by omega)]
    rintro ⟨y, hy, q1, q2⟩
    rcases List.mem_cons.1 hy with rfl | hy
    · omega
    · have := hp y hy; omega
  · rw [h.all _ (by omega) h1]
    rintro ⟨y, hy, q1, q2⟩
    rcases List.mem_cons.1 hy with rfl | hy
    · omega
    · have := hp y hy; omega

theorem apart_tail {O : Int → Prop} {a b : Int} {x : cal_Span} {l : List cal_Span} (h : Apart O a b (x :: l)) : Apart O x.to_ b l := by
  have hp := List.pairwise_cons.1 h.apart
  refine ⟨fun y hy => ?_, hp.2, fun m h1 h2 => ?_⟩
  · have := hp.1 y hy
    have := h.each y (by simp [hy])
    omega
  · have hx := h.each x (by simp)
    rw [h.all m (by omega) h2]
    constructor
    · rintro ⟨y, hy, q1, q2⟩
      rcases List.mem_cons.1 hy with rfl | hy
      · omega
      · exact ⟨y, hy, q1, q2⟩
    · rintro ⟨y, hy, q1, q2⟩
      exact ⟨y, List.mem_cons_of_mem _ hy, q1, q2⟩
/-- there is one list alone -/
theorem apart_unique {O : Int → Prop} : ∀ (l l' : List cal_Span) (a b : Int), Apart O a b l → Apart O a b l' → l = l'
  | [], [], _, _, _, _ => rfl
  | [], y :: l', a, b, h, h' => by
    obtain ⟨g1, _, g3, _⟩ := apart_cons h'
    exact absurd (g3 y.from_ (Int.le_refl _) g1.2.1) (apart_nil h y.from_ g1.1 (by omega))
  | x :: l, [], a, b, h, h' => by
    obtain ⟨g1, _, g3, _⟩ := apart_cons h
    exact absurd (g3 x.from_ (Int.le_refl _) g1.2.1) (apart_nil h' x.from_ g1.1 (by omega))
  | x :: l, y :: l', a, b, h, h' => by
    obtain ⟨g1, g2, g3, g4⟩ := apart_cons h
    obtain ⟨k1, k2, k3, k4⟩ := apart_cons h'
    have e1 : x.from_ = y.from_ := by
      rcases Int.lt_trichotomy x.from_ y.from_ with q | q | q
      · exact absurd (g3 x.from_ (Int.le_refl _) g1.2.1) (k2 _ g1.1 q)
      · exact q
      · exact absurd (k3 y.from_ (Int.le_refl _) k1.2.1) (g2 _ k1.1 q)
    have e2 : x.to_ = y.to_ := by
      rcases Int.lt_trichotomy x.to_ y.to_ with q | q | q
      · exact absurd (k3 x.to_ (by omega) q) (g4 (by omega))
      · exact q
      · exact absurd (g3 y.to_ (by omega) q) (k4 (by omega))
    have e : x = y := by cases x; cases y; simp_all
    subst e
    rw [apart_unique l l' x.to_ b (apart_tail h) (apart_tail h')]

theorem apart_wait {O : Int → Prop} {a m : Int} {l : List cal_Span} (h : Apart O a m l) (hn : ¬ O m) : Apart O a (m + 1) l := by
  refine ⟨fun x hx => by have := h.each x hx; omega, h.apart, fun u h1 h2 => ?_⟩
  by_cases hu : u = m
  · subst hu
    refine ⟨fun q => absurd q hn, fun ⟨x, hx, q1, q2⟩ => ?_⟩
    have := h.each x hx
    omega
  · exact h.all u h1 (by omega)
theorem apart_new {O : Int → Prop} {a m : Int} {l : List cal_Span} (h : Apart O a m l) (ha : a ≤ m) (ho : O m) (hl : ∀ x ∈ l, x.to_ < m) : Apart O a (m + 1) (l ++ [⟨m, m + 1⟩]) := by
  refine ⟨fun x hx => ?_, ?_, fun u h1 h2 => ?_⟩
  · rcases List.mem_append.1 hx with hx | hx
    · have := h.each x hx; omega
    · simp at hx; subst hx; simp; omega
  · rw [List.pairwise_append]
    exact ⟨h.apart, by simp, fun x hx y hy => by simp at hy; subst hy; exact hl x hx⟩
  · by_cases hu : u = m
    · subst hu
      exact ⟨fun _ => ⟨⟨u, u + 1⟩, by simp, by simp only; omega, by simp only; omega⟩, fun _ => ho⟩
    · rw [h.all u h1 (by omega)]
      constructor
      · rintro ⟨x, hx, q⟩
        exact ⟨x, List.mem_append_left _ hx, q⟩
      · rintro ⟨x, hx, q1, q2⟩
        rcases List.mem_append.1 hx with hx | hx
        · exact ⟨x, hx, q1, q2⟩
        · simp at hx; subst hx; simp only at q1 q2; omega
theorem apart_grow {O : Int → Prop} {a m : Int} {l : List cal_Span} {x : cal_Span} (h : Apart O a m (l ++ [x])) (ho : O m) (hx : x.to_ = m) : Apart O a (m + 1) (l ++ [⟨x.from_, m + 1⟩]) := by
  have hp := List.pairwise_append.1 h.apart
  have hxe := h.each x (by simp)
  refine ⟨fun y hy => ?_, ?_, fun u h1 h2 => ?_⟩
  · rcases List.mem_append.1 hy with hy | hy
    · have := h.each y (List.mem_append_left _ hy); omega
    · simp at hy; subst hy; simp only; omega
  · rw [List.pairwise_append]
    exact ⟨hp.1, by simp, fun y hy z hz => by simp at hz; subst hz; exact hp.2.2 y hy x (by simp)⟩
  · by_cases hu : u = m
    · subst hu
      exact ⟨fun _ => ⟨⟨x.from_, u + 1⟩, by simp, by simp only; omega, by simp only; omega⟩, fun _ => ho⟩
    · rw [h.all u h1 (by omega)]
      constructor
      · rintro ⟨y, hy, q1, q2⟩
        rcases List.mem_append.1 hy with hy | hy
        · exact ⟨y, List.mem_append_left _ hy, q1, q2⟩
        · simp at hy; subst hy
          exact ⟨⟨y.from_, m + 1⟩, by simp, q1, by simp only; omega⟩
      · rintro ⟨y, hy, q1, q2⟩
        rcases List.mem_append.1 hy with hy | hy
        · exact ⟨y, List.mem_append_left _ hy, q1, q2⟩
        · simp at hy; subst hy; simp only at q1 q2
          exact ⟨x, by simp, q1, by omega⟩

/-! how many there are -/

def wk (l : List cal_Shift) (d : Int) : Nat := (l.filter fun s => s.day == d % 7).length
theorem wk7 (d : Int) : ∀ l : List cal_Shift, wk l d + wk l (d + 1) + wk l (d + 2) + wk l (d + 3) + wk l (d + 4) + wk l (d + 5) + wk l (d + 6) ≤ l.length
  | [] => by simp [wk]
  | s :: l => by
    have ih := wk7 d l
    have step : ∀ e, wk (s :: l) e = wk l e + (if s.day = e % 7 then 1 else 0) := fun e => by
      unfold wk
      rw [List.filter_cons]
      by_cases h : s.day = e % 7 <;> simp [h]
    rw [step, step, step, step, step, step, step, List.length_cons]
    split <;> split <;> split <;> split <;> split <;> split <;> split <;> omega
def WS (l : List cal_Shift) : Int → Nat → Nat
  | _, 0 => 0
  | d, n + 1 => wk l d + WS l (d + 1) n
theorem WS_mono (l : List cal_Shift) : ∀ (n : Nat) (d : Int), WS l d n ≤ WS l d (n + 1)
  | 0, d => by simp [WS]
  | n + 1, d => by
    have := WS_mono l n (d + 1)
    rw [WS, WS]
    omega
theorem WS_le (l : List cal_Shift) (d : Int) (n : Nat) : ∀ k, WS l d n ≤ WS l d (n + k)
  | 0 => Nat.le_refl _
  | k + 1 => Nat.le_trans (WS_le l d n k) (WS_mono l (n + k) d)
theorem WS_seven (l : List cal_Shift) (d : Int) (n : Nat) : WS l d (n + 7) ≤ l.length + WS l (d + 7) n := by
  have h := wk7 d l
  have e : WS l d (n + 7) = wk l d + (wk l (d + 1) + (wk l (d + 1 + 1) + (wk l (d + 1 + 1 + 1) + (wk l (d + 1 + 1 + 1 + 1) + (wk l (d + 1 + 1 + 1 + 1 + 1) + (wk l (d + 1 + 1 + 1 + 1 + 1 + 1) + WS l (d + 1 + 1 + 1 + 1 + 1 + 1 + 1) n)))))) := rfl
  rw [e, show d + 1 + 1 + 1 + 1 + 1 + 1 + 1 = d + 7 by omega, show d + 1 + 1 + 1 + 1 + 1 + 1 = d + 6 by omega, show d + 1 + 1 + 1 + 1 + 1 = d + 5 by omega, show d + 1 + 1 + 1 + 1 = d + 4 by omega, show d + 1 + 1 + 1 = d + 3 by omega, show d + 1 + 1 = d + 2 by omega]
  omega
theorem WS_bound (l : List cal_Shift) (h60 : l.length ≤ 60) : ∀ (q n : Nat) (d : Int), n ≤ 7 * q → WS l d n ≤ 60 * q
  | 0, n, d, h => by
    obtain rfl : n = 0 := by omega
    simp [WS]
  | q + 1, n, d, h => by
    have h1 := WS_le l d n (7 * (q + 1) - n)
    rw [show n + (7 * (q + 1) - n) = 7 * q + 7 by omega] at h1
    have h2 := WS_seven l d (7 * q)
    have h3 := WS_bound l h60 q (7 * q) (d + 7) (Nat.le_refl _)
    omega

theorem days_len {c : cal_Calendar} (hc : CalOk c) (o a b : Int) : ∀ (n : Nat) (d : Int), (daysL c o a b d n).length ≤ 12 * n + WS c.week d n
  | 0, d => by simp [daysL]
  | n + 1, d => by
    have ih := days_len hc o a b n (d + 1)
    have hv : (visitL c o a b d).length ≤ 12 + wk c.week d := by
      unfold visitL
      refine Nat.le_trans (List.length_filter_le _ _) ?_
      rw [List.length_map]
      unfold daySh
      cases hf : c.specials.find? (fun x => x.day == d) with
      | some x =>
        obtain ⟨j, hj⟩ := List.mem_iff_getElem?.1 (List.mem_of_find?_eq_some hf)
        have := (hc.special j x hj).2.2.1
        simp only
        omega
      | none =>
        simp only [List.length_map]
        unfold wk
        omega
    rw [daysL, List.length_append, WS]
    omega
theorem part_len {c : cal_Calendar} (hc : CalOk c) (o a b : Int) (h : a < b) : 10080 * ((partAB c o a b).length : Int) ≤ 144 * (b - a) + 1140480 := by
  unfold partAB
  rw [if_neg (by omega)]
  generalize hD : (((b - 1 + o) / 1440 - (a + o) / 1440 + 2).toNat) = D
  have h1 := days_len hc o a b D ((a + o) / 1440 - 1)
  have h2 := WS_bound c.week hc.weeks ((D + 6) / 7) D ((a + o) / 1440 - 1) (by omega)
  omega
theorem sh_len {c : cal_Calendar} (hc : CalOk c) (from_ to_ : Int) : (shL c from_ to_).length ≤ 49999 := by
  have key : ∀ K, K ≤ c.zone.changes.length + 1 → 10080 * ((((List.range K).map (prt c.zone)).flatMap (partL c from_ to_)).length : Int) ≤ 144 * (fr c.zone K) + 1140480 * (K : Int) := by
    intro K
    induction K with
    | zero => intro _; simp [fr]
    | succ K ih =>
      intro hK
      have ih := ih (by omega)
      rw [List.range_succ, List.map_append, List.flatMap_append, List.length_append]
      simp only [List.map_cons, List.map_nil, List.flatMap_cons, List.flatMap_nil, List.append_nil]
      have hlt := fr_lt hc.zone K (by omega)
      have hp : 10080 * ((partL c from_ to_ (prt c.zone K)).length : Int) ≤ 144 * (fr c.zone (K + 1) - fr c.zone K) + 1140480 := by
        show 10080 * ((partAB c (ofs c.zone K) (if from_ < fr c.zone K then fr c.zone K else from_) (if fr c.zone (K + 1) < to_ then fr c.zone (K + 1) else to_)).length : Int) ≤ _
        generalize hga : (if from_ < fr c.zone K then fr c.zone K else from_) = a
        generalize hgb : (if fr c.zone (K + 1) < to_ then fr c.zone (K + 1) else to_) = b
        have ha : fr c.zone K ≤ a := by split at hga <;> omega
        have hb : b ≤ fr c.zone (K + 1) := by split at hgb <;> omega
        by_cases h : a < b
        · have := part_len hc (ofs c.zone K) a b h
          omega
        · unfold partAB
          rw [if_pos (by omega)]
          simp
          omega
      omega
  have h1 := key _ (Nat.le_refl _)
  have h2 := hc.changes
  rw [fr_last] at h1
  unfold shL
  omega
theorem merge_len : ∀ (l : List cal_Span) (last : cal_Span), (mergeL last l).length ≤ l.length + 1
  | [], last => by simp [mergeL]
  | x :: l, last => by
    rw [mergeL]
    split
    · have := merge_len l ⟨last.from_, if last.to_ < x.to_ then x.to_ else last.to_⟩
      simp only [List.length_cons]
      omega
    · have := merge_len l x
      simp only [List.length_cons]
      omega
theorem open_len {c : cal_Calendar} (hc : CalOk c) (from_ to_ : Int) : (openL c from_ to_).length ≤ 49999 := by
  have h := sh_len hc from_ to_
  unfold openL
  cases hl : shL c from_ to_ with
  | nil => simp [mergeA]
  | cons x l =>
    rw [hl] at h
    have := merge_len l x
    simp only [List.length_cons] at h
    rw [mergeA]
    omega

/-! the list itself, and sums, through the iterator -/

theorem iter_collect (lim : Nat) : ∀ (l acc : List cal_Span), acc.length + l.length ≤ lim →
    iterB (yieldB (fun (x66 : cal_Span) (s56 : (List cal_Span)) => Option.bind (appendL lim s56 ([x66] : List cal_Span)) fun x95 => some (x95, none))) l (acc, none) = some (true, (acc ++ l, none))
  | [], acc, _ => by simp [iterB]
  | x :: l, acc, h => by
    simp only [List.length_cons] at h
    rw [iterB]
    have ha : appendL lim acc [x] = some (acc ++ [x]) := by rw [appendL, if_pos (by simp; omega)]
    simp only [yieldB, Option.isNone_none, if_true, ha, Option.bind_some]
    have := iter_collect lim l (acc ++ [x]) (by simp; omega)
    rw [this]
    simp
theorem iter_fold {S : Type} (f : S → cal_Span → S) : ∀ (l : List cal_Span) (s : S), iterB (yieldB (fun (x : cal_Span) (s : S) => some (f s x, none))) l (s, none) = some (true, (l.foldl f s, none))
  | [], s => rfl
  | x :: l, s => by
    rw [iterB]
    simp only [yieldB, Option.isNone_none, if_true, Option.bind_some, List.foldl_cons]
    have := iter_fold f l (f s x)
    exact this
theorem forL_fold {S R : Type} (f : S → cal_Span → S) : ∀ (l : List cal_Span) (k : Nat) (s : S), forL (R := R) (fun _ x s => some (.nx (f s x))) l k s = some (.fin (l.foldl f s))
  | [], _, _ => rfl
  | x :: l, k, s => by
    rw [forL, List.foldl_cons]
    exact forL_fold f l (k + 1) (f s x)
theorem range_fold {S R : Type} (f : S → cal_Span → S) (l : List cal_Span) (s : S) (b : Nat → S → Option (Ctl S R)) (hb : ∀ k s x, l[k]? = some x → b k s = some (.nx (f s x))) : rangeB b l.length 0 s = some (.fin (l.foldl f s)) := by
  rw [rangeB_forL l (fun _ x s => some (.nx (f s x))) b hb s, forL_fold]
end Go.Proofs.YtnjlojicebcikaaGreat.M
