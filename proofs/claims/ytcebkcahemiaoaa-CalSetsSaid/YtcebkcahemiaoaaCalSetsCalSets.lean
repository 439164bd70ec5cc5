/-
  Union, Meet, Minus and their references agree: plain part.
-/
import Derived.Test.YtcebkcahemiaoaaCalSetsSweepMain
namespace Go.Proofs.Ytcebkcahemiaoaa.M
open Go Go.Pu
set_option linter.unusedSimpArgs false
set_option linter.unusedVariables false

theorem checkSpan_eq (s : cal_Span) : cal_checkSpan s = portref2_spanFault s := rfl
theorem checkSpans_eq (l : List cal_Span) : cal_CheckSpans l = portref2_SpansFault l := rfl
theorem spans_ok (l : List cal_Span) : ∃ r, portref2_SpansFault l = some r ∧ (r = 0 → l.length ≤ 50000 ∧ ∀ s ∈ l, s.from_ < s.to_) := by
  unfold portref2_SpansFault
  by_cases hlen : (50000 : Int) < (l.length : Int)
  · rw [if_pos (by simpa using hlen)]
    exact ⟨4, rfl, fun h => absurd h (by decide)⟩
  rw [if_neg (by simpa using hlen)]
  obtain ⟨o, h, ho⟩ := rangeB_spec (R := Int) (body := fun k7 (_ : Unit) => Option.bind (idx l (k7 : Int)) fun x27 => Option.bind (portref2_spanFault x27) fun x41 => if (x41 != 0) = true then some (.rt x41) else Option.bind (if (decide ((0 : Int) < (k7 : Int))) = true then (Option.bind (idx l (w64 ((k7 : Int) - 1))) fun x49 => some (decide (x27.from_ ≤ x49.to_))) else (some false)) fun s47 => if s47 = true then some (.rt 5) else some (.nx ())) l.length (fun k _ => l.length ≤ 50000 ∧ ∀ j x, j < k → l[j]? = some x → x.from_ < x.to_) (fun o => (∃ r, o = .rt r ∧ r ≠ 0) ∨ o = .fin () ∧ ∀ x ∈ l, x.from_ < x.to_) (s := ()) ⟨by omega, fun j x h => by omega⟩ (by
      rintro k _ hk ⟨hL, hI⟩
      rw [idx_lt _ _ hk, Option.bind_some]
      have hw : (if (decide ((0 : Int) < (k : Int))) = true then (Option.bind (idx l (w64 ((k : Int) - 1))) fun x49 => some (decide (l[k].from_ ≤ x49.to_))) else (some false)) = some (if h : 0 < k then decide (l[k].from_ ≤ (l[k - 1]'(by omega)).to_) else false) := by
        by_cases h0 : 0 < k
        · have e : w64 ((k : Int) - 1) = ((k - 1 : Nat) : Int) := by rw [w64_id (by omega) (by omega)]; omega
          rw [if_pos (by simpa using h0), e, idx_lt _ _ (by omega), dif_pos h0]
          rfl
        · rw [if_neg (by simpa using h0), dif_neg h0]
      rw [hw]
      generalize (if h : 0 < k then decide (l[k].from_ ≤ (l[k - 1]'(by omega)).to_) else false) = q
      unfold portref2_spanFault
      split
      · exact ⟨_, rfl, Or.inl ⟨2, rfl, by decide⟩⟩
      split
      · exact ⟨_, rfl, Or.inl ⟨1, rfl, by decide⟩⟩
      · rename_i h1 h2
        cases q with
        | true => exact ⟨_, rfl, Or.inl ⟨5, rfl, by decide⟩⟩
        | false =>
          refine ⟨_, rfl, hL, fun j x hj hx => ?_⟩
          rcases Nat.lt_or_ge j k with h | h
          · exact hI j x h hx
          · obtain rfl : j = k := by omega
            rw [List.getElem?_eq_getElem hk] at hx
            cases hx
            simpa using h2) (fun s hI => Or.inr ⟨rfl, fun x hx => by
        obtain ⟨j, hj⟩ := List.mem_iff_getElem?.1 hx
        exact hI.2 j x (List.getElem?_eq_some_iff.1 hj).1 hj⟩)
  rw [h]
  rcases ho with ⟨r, rfl, hr⟩ | ⟨rfl, hx⟩
  · exact ⟨r, rfl, fun h => absurd h hr⟩
  · exact ⟨0, rfl, fun _ => ⟨by omega, hx⟩⟩

def inL (l : List cal_Span) (m : Int) : Bool := l.any fun s => decide (s.from_ ≤ m) && decide (m < s.to_)
theorem opened_any (a : Int) (l : List cal_Span) : decide (0 < opened a l) = inL l a := by
  unfold opened inL
  induction l with
  | nil => rfl
  | cons x l ih =>
    rw [List.filter_cons, List.any_cons, ← ih]
    by_cases h : x.from_ ≤ a ∧ a < x.to_ <;> simp [h] <;> omega
theorem within_val (l : List cal_Span) (a : Int) : portref2_within l a = some (inL l a) := by
  unfold portref2_within slices_ContainsFunc_Lcal_Span_cal_Span slices_IndexFunc_Lcal_Span_cal_Span portref2_within_1
  have hi := rangeB_index l (fun s => decide (s.from_ ≤ a) && decide (a < s.to_))
  rw [hi]
  unfold inL
  rw [← findIdx_any]
  cases l.findIdx? (fun s => decide (s.from_ ≤ a) && decide (a < s.to_)) <;> rfl
theorem or_two (a b : Int) : cmp_Or_api_Errno [a, b] = some (if a ≠ 0 then a else b) := by
  unfold cmp_Or_api_Errno
  rw [rangeB_forL [a, b] (fun k x (_ : Unit) => if (x != 0) = true then some (.rt x) else some (.nx ())) _ (fun k s x hx => by simp [idx_nat, hx])]
  by_cases ha : a = 0 <;> by_cases hb : b = 0 <;> simp [forL, ha, hb, Lp.andThen]

theorem set_eq (op : ByteArray) (a b : List cal_Span) (wanted : List Int → Option Bool) (H : Int → Bool) (hw : a.length ≤ 50000 → b.length ≤ 50000 → ∀ m, wanted (countsAt [a, b] m) = some (H m)) (hh : ∀ m, portref2_SetOf_1 m a b op = some (H m)) :
    ∃ x, cal_combined a b wanted = some x ∧ portref2_SetOf op a b = some x := by
  obtain ⟨r, a1, a2⟩ := spans_ok a
  obtain ⟨s, b1, b2⟩ := spans_ok b
  unfold cal_combined portref2_SetOf
  rw [checkSpans_eq, checkSpans_eq, a1, b1]
  rw [rangeB_forL [a, b] (fun k x (_ : Unit) => Option.bind (portref2_SpansFault x) fun x75 => if (x75 != 0) = true then some (.rt (([] : (List cal_Span)), x75)) else some (.nx ())) _ (fun k s x hx => by simp [idx_nat, hx])]
  simp only [Option.bind_some, or_two, forL, a1, b1]
  by_cases hr : r = 0
  rotate_left
  · have h1 : (r != 0) = true := by simpa using hr
    simp only [ne_eq, hr, not_false_eq_true, if_true, h1, Lp.andThen, Option.bind_some]
    exact ⟨_, rfl, rfl⟩
  subst hr
  by_cases hs : s = 0
  rotate_left
  · have h1 : (s != 0) = true := by simpa using hs
    simp only [ne_eq, not_true, if_false, if_true, h1, bne_self_eq_false, Bool.false_eq_true, Lp.andThen, Option.bind_some]
    exact ⟨_, rfl, rfl⟩
  subst hs
  obtain ⟨la, ha⟩ := a2 rfl
  obtain ⟨lb, hb⟩ := b2 rfl
  have hpl : ∀ (m : List cal_Span) k, (flatK (fun _ (s : cal_Span) => [s.from_, s.to_]) k m).length = 2 * m.length := by
    intro m
    induction m with
    | nil => intro k; rfl
    | cons x m ih => intro k; rw [flatK, List.length_append, ih]; simp; omega
  obtain ⟨q, h1, h2⟩ := swept_merged [a, b] wanted (fun y100 => portref2_SetOf_1 y100 a b op) H (by simp) (by unfold pointsL; rw [flatK, flatK, flatK, List.append_nil, List.length_append, hpl, hpl]; omega)
    (fun l' h' s hs => by
      rcases List.mem_cons.1 h' with rfl | h'
      · exact ha s hs
      · rw [List.mem_singleton] at h'; subst h'; exact hb s hs) (hw la lb) hh
  simp only [ne_eq, not_true, if_false, bne_self_eq_false, Bool.false_eq_true, Lp.andThen, Option.bind_some, h1, h2, cal_limited]
  split <;> exact ⟨_, rfl, rfl⟩

theorem opened_range (m : Int) (l : List cal_Span) : 0 ≤ opened m l ∧ opened m l ≤ l.length := by
  unfold opened
  have := List.length_filter_le (fun s : cal_Span => decide (s.from_ ≤ m ∧ m < s.to_)) l
  constructor <;> omega
theorem union_eq (a b : List cal_Span) : ∃ x, cal_Union a b = some x ∧ portref2_SetOf ⟨#[117, 110, 105, 111, 110]⟩ a b = some x := by
  obtain ⟨x, h1, h2⟩ := set_eq ⟨#[117, 110, 105, 111, 110]⟩ a b (fun y5 => cal_Union_1 y5) (fun m => inL a m || inL b m) (fun la lb m => by
    obtain ⟨p1, p2⟩ := opened_range m a
    obtain ⟨q1, q2⟩ := opened_range m b
    unfold cal_Union_1 countsAt
    rw [← opened_any, ← opened_any]
    simp only [List.map_cons, List.map_nil, idx, show ¬ (0 : Int) < 0 by decide]
    simp
    rw [w64_id (by omega) (by omega)]
    by_cases h : 0 < opened m a <;> by_cases h' : 0 < opened m b <;> simp [h, h'] <;> omega) (fun m => by
    unfold portref2_SetOf_1
    rw [within_val, within_val]
    simp only [Option.bind_some]
    simp [strEq])
  exact ⟨x, by unfold cal_Union; rw [h1]; rfl, h2⟩
theorem meet_eq (a b : List cal_Span) : ∃ x, cal_Meet a b = some x ∧ portref2_SetOf ⟨#[109, 101, 101, 116]⟩ a b = some x := by
  obtain ⟨x, h1, h2⟩ := set_eq ⟨#[109, 101, 101, 116]⟩ a b (fun y5 => cal_Meet_1 y5) (fun m => inL a m && inL b m) (fun la lb m => by
    unfold cal_Meet_1 countsAt
    rw [← opened_any, ← opened_any]
    by_cases h : 0 < opened m a <;> simp [idx, h]) (fun m => by
    unfold portref2_SetOf_1
    rw [within_val, within_val]
    simp only [Option.bind_some]
    simp [strEq])
  exact ⟨x, by unfold cal_Meet; rw [h1]; rfl, h2⟩
theorem minus_eq (a b : List cal_Span) : ∃ x, cal_Minus a b = some x ∧ portref2_SetOf ⟨#[109, 105, 110, 117, 115]⟩ a b = some x := by
  obtain ⟨x, h1, h2⟩ := set_eq ⟨#[109, 105, 110, 117, 115]⟩ a b (fun y5 => cal_Minus_1 y5) (fun m => inL a m && !inL b m) (fun la lb m => by
    obtain ⟨q1, q2⟩ := opened_range m b
    unfold cal_Minus_1 countsAt
    rw [← opened_any, ← opened_any]
    by_cases h : 0 < opened m a <;> by_cases h' : 0 < opened m b <;> simp [idx, h, h'] <;> omega) (fun m => by
    unfold portref2_SetOf_1
    rw [within_val, within_val]
    simp only [Option.bind_some]
    simp [strEq])
  exact ⟨x, by unfold cal_Minus; rw [h1]; rfl, h2⟩
theorem n_equal_spans (l : List cal_Span) : slices_Equal_Lcal_Span_cal_Span l l = some true := by
  unfold slices_Equal_Lcal_Span_cal_Span
  simp only [bne_self_eq_false, Bool.false_eq_true, if_false]
  obtain ⟨t, h, _⟩ := rangeB_inv (R := Bool) (b := fun k9 (_ : Unit) => Option.bind (idx l (k9 : Int)) fun x29 => Option.bind (idx l (k9 : Int)) fun x34 => if (!(x29.from_ == x34.from_ && (x29.to_ == x34.to_))) = true then some (.rt false) else some (.nx ())) l.length (fun _ _ => True) (s := ()) trivial
    (fun k s hk _ => by rw [idx_lt _ _ hk]; simp)
  rw [h]
  rfl
theorem setsOk_self (x : (List cal_Span) × Int) : setsOk x x = some () := by
  unfold setsOk
  rw [if_pos (by simp), n_equal_spans]
  rfl
theorem sets_true (a b : List cal_Span) : portlaw2_CalSets a b = some true := by
  obtain ⟨x, hx, hx'⟩ := union_eq a b
  obtain ⟨y, hy, hy'⟩ := meet_eq a b
  obtain ⟨z, hz, hz'⟩ := minus_eq a b
  unfold portlaw2_CalSets
  rw [hx, hx', hy, hy', hz, hz']
  simp only [Option.bind_some, setsOk_self]
end Go.Proofs.Ytcebkcahemiaoaa.M
