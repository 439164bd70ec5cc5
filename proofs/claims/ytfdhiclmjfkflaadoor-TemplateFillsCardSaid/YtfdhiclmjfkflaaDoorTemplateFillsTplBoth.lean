/-
  Templates: the code's reading and the document's side by side: plain part.
-/
import Derived.Test.YtfdhiclmjfkflaaDoorTemplateFillsTplOf
namespace Go.Proofs.YtfdhiclmjfkflaaDoor.M
open Go Go.Pu
set_option linter.unusedSimpArgs false
set_option linter.unusedVariables false

def nmOf (f : know_field) : Option ByteArray := if (!(strEq f.name (⟨#[]⟩ : ByteArray))) = true then some f.name else none
theorem names_val (l : List know_field) (h : l.length ≤ 100000) : know_names l = some (l.filterMap nmOf) := by
  unfold know_names
  obtain ⟨t, ho, rfl⟩ := rangeB_inv (R := List ByteArray) (b := fun k6 (s14 : List ByteArray) => Option.bind (Option.bind (idx l (k6 : Int)) fun x39 => Option.bind (if (!(strEq x39.name (⟨#[]⟩ : ByteArray))) = true then Option.bind (appendL 8796093022208 s14 ([x39.name] : List ByteArray)) fun x70 => some x70 else some s14) fun s54 => some s54) fun s30 => some (.nx s30)) l.length
    (fun k z => z = (l.take k).filterMap nmOf) (s := []) (by simp) (by
      rintro k _ hk rfl
      have hc := List.getElem?_eq_getElem hk
      rw [idx_nat, hc]
      simp only [Option.bind_some]
      have hl : ((l.take k).filterMap nmOf).length ≤ 100000 := Nat.le_trans (List.length_filterMap_le _ _) (by rw [List.length_take]; omega)
      rw [List.take_add_one, hc, List.filterMap_append]
      by_cases h1 : (!(strEq (l[k]).name (⟨#[]⟩ : ByteArray))) = true
      · have : nmOf l[k] = some (l[k]).name := by unfold nmOf; rw [if_pos h1]
        rw [if_pos h1, appendL, if_pos (by simp only [List.length_cons, List.length_nil]; omega)]
        simp only [Option.bind_some]
        refine ⟨_, rfl, ?_⟩
        simp [this]
      · have : nmOf l[k] = none := by unfold nmOf; rw [if_neg h1]
        rw [if_neg h1]
        simp only [Option.bind_some]
        refine ⟨_, rfl, ?_⟩
        simp [this])
  rw [ho, Option.bind_some, Lp.andThen_fin, List.take_length]
theorem nmOf_good {f : know_field} (h : good f) : nmOf f = some f.name := by
  unfold nmOf strEq
  rw [if_pos]
  rw [Bool.not_eq_true', beq_eq_false_iff_ne]
  intro h1
  rw [ByteArray.toList_eq, ByteArray.toList_eq] at h1
  have : f.name.data.toList.length = 0 := by rw [h1]; rfl
  rw [t_len] at this
  have := h.1
  omega
theorem nmOf_txt (t : List UInt8) : (txt t).filterMap nmOf = [] := by
  unfold txt
  split
  · rfl
  · have : nmOf ⟨ByteArray.empty, 0, toB t, ByteArray.empty⟩ = none := by
      unfold nmOf strEq
      rw [if_neg]
      rw [show (ByteArray.empty : ByteArray) = (⟨#[]⟩ : ByteArray) from rfl]
      simp
    simp [this]
theorem names_flt (L : List (List UInt8 × know_field)) (t : List UInt8) (h : ∀ p ∈ L, good p.2) : (flt L ++ txt t).filterMap nmOf = L.map (·.2.name) := by
  rw [List.filterMap_append, nmOf_txt, List.append_nil]
  induction L with
  | nil => rfl
  | cons p L ih =>
    unfold flt at ih ⊢
    rw [List.flatMap_cons, List.filterMap_append, List.filterMap_append, nmOf_txt, List.nil_append, ih fun q hq => h q (List.mem_cons_of_mem _ hq)]
    simp [nmOf_good (h p (List.mem_cons_self))]
theorem flt_len (L : List (List UInt8 × know_field)) : (flt L).length ≤ 2 * L.length := by
  induction L with
  | nil => exact Nat.le_refl _
  | cons p L ih =>
    have : (txt p.1).length ≤ 1 := by unfold txt; split <;> simp
    unfold flt at ih ⊢
    rw [List.flatMap_cons, List.length_append, List.length_append, List.length_cons, List.length_cons, List.length_nil]
    omega
/-- a template that may be: its texts and fields, the last text -/
theorem template_val (s : ByteArray) : ∃ a b, know_template s = some a ∧ portref2_TemplateFault s = some b ∧ a.2 = b.2 ∧ (a.2.2 = 0 → ∃ (L : List (List UInt8 × know_field)) (t : List UInt8), a.1 = flt L ++ txt t ∧ b.1 = rfl2 L ++ [pcT t] ∧ (∀ p ∈ L, good p.2) ∧ L.length ≤ 40 ∧ (L, t) = ((prs s 0).1, (prs s 0).2.1) ∧ s.size ≤ 20000) := by
  unfold know_template portref2_TemplateFault
  by_cases hs : s.size ≤ 20000
  rotate_left
  · rw [if_pos (by simp; omega), if_pos (by simp; omega)]
    exact ⟨_, _, rfl, rfl, rfl, fun h => by cases h⟩
  rw [if_neg (by simp; omega), if_neg (by simp; omega), plain_val s hs, Option.bind_some]
  have hl := low_val s hs
  have hl2 : (Option.bind (strings_ReplaceAll s (⟨#[10]⟩ : ByteArray) (⟨#[]⟩ : ByteArray)) fun x2 => Option.bind (portref2_lowByte x2) fun x6 => if x6 = true then some (([] : (List portref2_piece)), (0 : Int), (9 : Int)) else
      Option.bind (portref2_templateOf s) fun x11 => if (!x11.2.2) = true then some (([] : (List portref2_piece)), x11.2.1, 8) else if (decide ((40 : Int) < (w64 (Int.tdiv (x11.1.length : Int) 2)))) = true then some (([] : (List portref2_piece)), 0, 4) else some (x11.1, 0, 0)) = if s.data.toList.any badb = true then some (([] : (List portref2_piece)), (0 : Int), (9 : Int)) else
      Option.bind (portref2_templateOf s) fun x11 => if (!x11.2.2) = true then some (([] : (List portref2_piece)), x11.2.1, 8) else if (decide ((40 : Int) < (w64 (Int.tdiv (x11.1.length : Int) 2)))) = true then some (([] : (List portref2_piece)), 0, 4) else some (x11.1, 0, 0) := by
    rw [← Option.bind_assoc, hl, Option.bind_some]
  rw [hl2]
  by_cases hb : s.data.toList.any badb = true
  · rw [if_pos (by rw [hb]; rfl), if_pos hb]
    exact ⟨_, _, rfl, rfl, rfl, fun h => by cases h⟩
  rw [if_neg (by simpa using hb), if_neg hb]
  obtain ⟨l, h1, h2, h3⟩ := parse_val s hs
  rw [h1, of_val s hs, Option.bind_some, Option.bind_some]
  simp only
  generalize hP : prs s 0 = P at h2 h3 ⊢
  obtain ⟨L, t, ok, at_⟩ := P
  simp only at h2 h3 ⊢
  cases ok with
  | false =>
    simp only [Bool.not_false, Bool.false_eq_true, if_true, if_false]
    exact ⟨_, _, rfl, rfl, rfl, fun h => by cases h⟩
  | true =>
    obtain ⟨rfl, hg⟩ := h2 rfl
    have hfl := flt_len L
    have htl : (txt t).length ≤ 1 := by unfold txt; split <;> simp
    simp only [Bool.not_true, Bool.false_eq_true, if_true, if_false]
    rw [names_val _ (by rw [List.length_append]; omega), Option.bind_some, names_flt L t hg]
    have hn : w64 (Int.tdiv (((rfl2 L ++ [pcT t]).length : Nat) : Int) 2) = (L.length : Int) := by
      rw [List.length_append, rfl2_len, List.length_cons, List.length_nil, Int.tdiv_eq_ediv_of_nonneg (by omega)]
      rw [w64_id (by omega) (by omega)]
      omega
    rw [hn, List.length_map]
    by_cases h40 : 40 < L.length
    · rw [if_pos (by simp; omega), if_pos (by simp; omega)]
      exact ⟨_, _, rfl, rfl, rfl, fun h => by cases h⟩
    · rw [if_neg (by simp; omega), if_neg (by simp; omega)]
      exact ⟨_, _, rfl, rfl, rfl, fun _ => ⟨L, t, rfl, rfl, hg, by omega, rfl, hs⟩⟩
end Go.Proofs.YtfdhiclmjfkflaaDoor.M
