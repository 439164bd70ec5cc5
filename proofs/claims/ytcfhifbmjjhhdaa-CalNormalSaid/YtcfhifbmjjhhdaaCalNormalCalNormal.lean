/-
  Normal and CheckSpans are their references: plain part.
-/
import Derived.Test.YtcfhifbmjjhhdaaCalNormalSweepMain
namespace Go.Proofs.Ytcfhifbmjjhhdaa.M
open Go Go.Pu
set_option linter.unusedSimpArgs false
set_option linter.unusedVariables false

theorem n_equal_spans (l : List cal_Span) : slices_Equal_Lcal_Span_cal_Span l l = some true := by
  unfold slices_Equal_Lcal_Span_cal_Span
  simp only [bne_self_eq_false, Bool.false_eq_true, if_false]
  obtain ⟨t, h, _⟩ := rangeB_inv (R := Bool) (b := fun k9 (_ : Unit) => Option.bind (idx l (k9 : Int)) fun x29 => Option.bind (idx l (k9 : Int)) fun x34 => if (!(x29.from_ == x34.from_ && (x29.to_ == x34.to_))) = true then some (.rt false) else some (.nx ())) l.length (fun _ _ => True) (s := ()) trivial
    (fun k s hk _ => by rw [idx_lt _ _ hk]; simp)
  rw [h]
  rfl
theorem checkSpan_eq (s : cal_Span) : cal_checkSpan s = portref2_spanFault s := rfl
theorem checkSpans_eq (l : List cal_Span) : cal_CheckSpans l = portref2_SpansFault l := rfl
theorem checkSpans_total (l : List cal_Span) : ∃ n, portref2_SpansFault l = some n := by
  unfold portref2_SpansFault
  by_cases hne : (50000 : Int) < (l.length : Int)
  · rw [if_pos (by simpa using hne)]; exact ⟨_, rfl⟩
  rw [if_neg (by simpa using hne)]
  obtain ⟨r, h, n, hn⟩ := rangeB_spec (R := Int) (body := fun k7 (_ : Unit) => Option.bind (idx l (k7 : Int)) fun x27 => Option.bind (portref2_spanFault x27) fun x41 => if (x41 != 0) = true then some (.rt x41) else Option.bind (if (decide ((0 : Int) < (k7 : Int))) = true then (Option.bind (idx l (w64 ((k7 : Int) - 1))) fun x49 => some (decide (x27.from_ ≤ x49.to_))) else (some false)) fun s47 => if s47 = true then some (.rt 5) else some (.nx ())) l.length (fun _ _ => True) (fun o => ∃ n, o.andThen (fun y => some y) (fun _ => some (0 : Int)) = some n) (s := ()) trivial (by
      intro k _ hk _
      have hf : ∃ n, portref2_spanFault l[k] = some n := by unfold portref2_spanFault; repeat' split <;> try exact ⟨_, rfl⟩
      obtain ⟨n, hf⟩ := hf
      rw [idx_lt _ _ hk, Option.bind_some, hf, Option.bind_some]
      by_cases h1 : (n != 0) = true
      · rw [if_pos h1]; exact ⟨_, rfl, n, rfl⟩
      · rw [if_neg h1]
        by_cases h2 : 0 < k
        · have hlen : l.length ≤ 50000 := by omega
          rw [if_pos (by simpa using h2), w64_id (by omega) (by omega), show ((k : Int) - 1) = ((k - 1 : Nat) : Int) by omega, idx_lt _ _ (by omega), Option.bind_some, Option.bind_some]
          split
          · exact ⟨_, rfl, 5, rfl⟩
          · exact ⟨_, rfl, trivial⟩
        · rw [if_neg (by simpa using h2), Option.bind_some, if_neg (by simp)]
          exact ⟨_, rfl, trivial⟩) (fun s _ => ⟨0, rfl⟩)
  rw [h, Option.bind_some]
  exact ⟨n, hn⟩
theorem opened_any (a : Int) (l : List cal_Span) : decide (0 < opened a l) = l.any fun s => decide (s.from_ ≤ a) && decide (a < s.to_) := by
  unfold opened
  rw [Bool.eq_iff_iff, decide_eq_true_eq, List.any_eq_true]
  constructor
  · intro h
    obtain ⟨x, hx⟩ := List.exists_mem_of_length_pos (l := l.filter fun s => decide (s.from_ ≤ a ∧ a < s.to_)) (by omega)
    obtain ⟨h1, h2⟩ := List.mem_filter.1 hx
    exact ⟨x, h1, by simpa using h2⟩
  · rintro ⟨x, h1, h2⟩
    have := List.length_pos_of_mem (List.mem_filter (p := fun s : cal_Span => decide (s.from_ ≤ a ∧ a < s.to_)).2 ⟨h1, by simpa using h2⟩)
    omega
theorem within_val (l : List cal_Span) (a : Int) : portref2_NormalOf_1 a l = some (l.any fun s => decide (s.from_ ≤ a) && decide (a < s.to_)) := by
  unfold portref2_NormalOf_1 portref2_within slices_ContainsFunc_Lcal_Span_cal_Span slices_IndexFunc_Lcal_Span_cal_Span portref2_within_1
  simp only [Option.bind_some]
  have hi := rangeB_index l (fun s => decide (s.from_ ≤ a) && decide (a < s.to_))
  simp only [Option.bind_some] at hi
  rw [hi]
  rw [← findIdx_any]
  cases l.findIdx? (fun s => decide (s.from_ ≤ a) && decide (a < s.to_)) <;> rfl
theorem normal_eq (l : List cal_Span) : ∃ r, cal_Normal l = some r ∧ portref2_NormalOf l = some r := by
  unfold cal_Normal portref2_NormalOf
  by_cases hlen : (50000 : Int) < (l.length : Int)
  · rw [if_pos (by simpa using hlen), if_pos (by simpa using hlen)]
    exact ⟨_, rfl, rfl⟩
  rw [if_neg (by simpa using hlen), if_neg (by simpa using hlen)]
  obtain ⟨o, h, ho⟩ := rangeB_spec (R := List cal_Span × Int) (body := fun k22 (_ : Unit) => Option.bind (idx l (k22 : Int)) fun x41 => Option.bind (portref2_spanFault x41) fun x55 => if (x55 != 0) = true then some (.rt (([] : (List cal_Span)), x55)) else some (.nx ())) l.length (fun k _ => ∀ j x, j < k → l[j]? = some x → x.from_ < x.to_) (fun o => (∃ r, o = .rt r) ∨ o = .fin () ∧ ∀ x ∈ l, x.from_ < x.to_) (s := ()) (fun j x h => by omega) (by
      intro k _ hk hI
      rw [idx_lt _ _ hk, Option.bind_some]
      unfold portref2_spanFault
      split
      · exact ⟨_, rfl, Or.inl ⟨_, rfl⟩⟩
      split
      · exact ⟨_, rfl, Or.inl ⟨_, rfl⟩⟩
      · rename_i h1 h2
        refine ⟨_, rfl, fun j x hj hx => ?_⟩
        rcases Nat.lt_or_ge j k with h | h
        · exact hI j x h hx
        · obtain rfl : j = k := by omega
          rw [List.getElem?_eq_getElem hk] at hx
          cases hx
          simpa using h2) (fun s hI => Or.inr ⟨rfl, fun x hx => by
        obtain ⟨j, hj⟩ := List.mem_iff_getElem?.1 hx
        exact hI j x (List.getElem?_eq_some_iff.1 hj).1 hj⟩)
  simp only [checkSpan_eq]
  rw [h, Option.bind_some, Option.bind_some]
  rcases ho with ⟨r, rfl⟩ | ⟨rfl, hx⟩
  · exact ⟨r, rfl, rfl⟩
  rw [Lp.andThen_fin, Lp.andThen_fin]
  have hpl : ∀ (m : List cal_Span) k, (flatK (fun _ (s : cal_Span) => [s.from_, s.to_]) k m).length = 2 * m.length := by
    intro m
    induction m with
    | nil => intro k; rfl
    | cons x m ih => intro k; rw [flatK, List.length_append, ih]; simp; omega
  obtain ⟨r, h1, h2⟩ := swept_merged [l] (fun y57 => cal_Normal_1 y57) (fun y74 => portref2_NormalOf_1 y74 l) (fun a => l.any fun s => decide (s.from_ ≤ a) && decide (a < s.to_)) (by simp) (by unfold pointsL; rw [flatK, flatK, List.append_nil, hpl]; omega)
    (fun l' h' s hs => by rw [List.mem_singleton] at h'; subst h'; exact hx s hs) (fun a => by
      unfold cal_Normal_1 countsAt
      rw [List.map_cons, ← opened_any]
      rfl) (fun a => within_val l a)
  rw [h1, h2]
  exact ⟨_, rfl, rfl⟩
theorem normal_true (l : List cal_Span) : portlaw2_CalNormal l = some true := by
  unfold portlaw2_CalNormal
  obtain ⟨r, h1, h2⟩ := normal_eq l
  obtain ⟨n, hn⟩ := checkSpans_total l
  rw [h1, h2, checkSpans_eq, hn]
  simp only [Option.bind_some, beq_self_eq_true, if_true, n_equal_spans]
end Go.Proofs.Ytcfhifbmjjhhdaa.M
