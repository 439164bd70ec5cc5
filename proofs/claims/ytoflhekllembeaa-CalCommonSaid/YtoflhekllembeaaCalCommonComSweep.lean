/-
  What the sweep of one list makes: the spans on which it holds, apart: plain part.
-/
import Derived.Test.YtoflhekllembeaaCalCommonCalApart
import Derived.Test.YtoflhekllembeaaCalCommonSweepEq
namespace Go.Proofs.Ytoflhekllembeaa.M
open Go Go.Pu
set_option linter.unusedSimpArgs false
set_option linter.unusedVariables false

theorem uniqA_len (l : List Int) : ∀ p, (uniqA p l).length ≤ l.length := by
  induction l with
  | nil => intro p; simp [uniqA]
  | cons a l ih =>
    intro p
    rw [uniqA]
    have h1 := ih p
    have h2 := ih (some a)
    split <;> simp only [List.length_cons] <;> omega
theorem uniqA_mem (l : List Int) : ∀ p x, x ∈ uniqA p l → x ∈ l := by
  induction l with
  | nil => intro p x; simp [uniqA]
  | cons a l ih =>
    intro p x
    rw [uniqA]
    split
    · intro h; exact List.mem_cons_of_mem _ (ih _ _ h)
    · intro h
      rcases List.mem_cons.1 h with rfl | h
      · exact List.mem_cons_self
      · exact List.mem_cons_of_mem _ (ih _ _ h)
/-- sorted values, each once: they rise -/
theorem uniqA_rise (l : List Int) : ∀ p, l.Pairwise (· ≤ ·) → (∀ q, p = some q → ∀ x ∈ l, q ≤ x) → (uniqA p l).Pairwise (· < ·) ∧ (∀ q, p = some q → ∀ x ∈ uniqA p l, q < x) := by
  induction l with
  | nil => intro p _ _; simp [uniqA]
  | cons a l ih =>
    intro p hs hp
    have hs' := List.pairwise_cons.1 hs
    rw [uniqA]
    split
    · rename_i h
      exact ih p hs'.2 fun q hq x hx => hp q hq x (List.mem_cons_of_mem _ hx)
    · rename_i h
      obtain ⟨i1, i2⟩ := ih (some a) hs'.2 fun q hq x hx => by cases hq; exact hs'.1 x hx
      refine ⟨List.pairwise_cons.2 ⟨fun x hx => i2 a rfl x hx, i1⟩, fun q hq x hx => ?_⟩
      subst hq
      have h1 := hp q rfl a List.mem_cons_self
      have h2 : q ≠ a := fun e => h (by rw [e])
      rcases List.mem_cons.1 hx with rfl | hx
      · omega
      · have := i2 a rfl x hx
        omega
theorem uniqA_all (l : List Int) : ∀ p x, x ∈ l → p = some x ∨ x ∈ uniqA p l := by
  induction l with
  | nil => intro p x h; cases h
  | cons a l ih =>
    intro p x h
    rw [uniqA]
    split
    · rename_i e
      rcases List.mem_cons.1 h with rfl | h
      · exact .inl e
      · exact ih p x h
    · rcases List.mem_cons.1 h with rfl | h
      · exact .inr List.mem_cons_self
      · rcases ih (some a) x h with e | h
        · cases e; exact .inr List.mem_cons_self
        · exact .inr (List.mem_cons_of_mem _ h)

/-- nothing holds from m to b -/
theorem apart_waitG {O : Int → Prop} {a m b : Int} {l : List cal_Span} (h : Apart O a m l) (hb : m ≤ b) (hn : ∀ u, m ≤ u → u < b → ¬ O u) : Apart O a b l := by
  refine ⟨fun x hx => by have := h.each x hx; omega, h.apart, fun u h1 h2 => ?_⟩
  by_cases hu : m ≤ u
  · refine ⟨fun q => absurd q (hn u hu h2), fun ⟨x, hx, q1, q2⟩ => ?_⟩
    have := h.each x hx
    omega
  · exact h.all u h1 (by omega)
theorem apart_newG {O : Int → Prop} {a m b : Int} {l : List cal_Span} (h : Apart O a m l) (ha : a ≤ m) (hb : m < b) (ho : ∀ u, m ≤ u → u < b → O u) (hl : ∀ x ∈ l, x.to_ < m) : Apart O a b (l ++ [⟨m, b⟩]) := by
  refine ⟨fun x hx => ?_, ?_, fun u h1 h2 => ?_⟩
  · rcases List.mem_append.1 hx with hx | hx
    · have := h.each x hx; omega
    · simp at hx; subst hx; simp; omega
  · rw [List.pairwise_append]
    exact ⟨h.apart, by simp, fun x hx y hy => by simp at hy; subst hy; exact hl x hx⟩
  · by_cases hu : m ≤ u
    · exact ⟨fun _ => ⟨⟨m, b⟩, by simp, hu, h2⟩, fun _ => ho u hu h2⟩
    · rw [h.all u h1 (by omega)]
      constructor
      · rintro ⟨x, hx, q⟩
        exact ⟨x, List.mem_append_left _ hx, q⟩
      · rintro ⟨x, hx, q1, q2⟩
        rcases List.mem_append.1 hx with hx | hx
        · exact ⟨x, hx, q1, q2⟩
        · simp at hx; subst hx; simp only at q1 q2; omega
theorem apart_growG {O : Int → Prop} {a m b : Int} {l : List cal_Span} {x : cal_Span} (h : Apart O a m (l ++ [x])) (hb : m < b) (ho : ∀ u, m ≤ u → u < b → O u) (hx : x.to_ = m) : Apart O a b (l ++ [⟨x.from_, b⟩]) := by
  have hp := List.pairwise_append.1 h.apart
  have hxe := h.each x (by simp)
  refine ⟨fun y hy => ?_, ?_, fun u h1 h2 => ?_⟩
  · rcases List.mem_append.1 hy with hy | hy
    · have := h.each y (List.mem_append_left _ hy); omega
    · simp at hy; subst hy; simp only; omega
  · rw [List.pairwise_append]
    exact ⟨hp.1, by simp, fun y hy z hz => by simp at hz; subst hz; exact hp.2.2 y hy x (by simp)⟩
  · by_cases hu : m ≤ u
    · exact ⟨fun _ => ⟨⟨x.from_, b⟩, by simp, by simp only; omega, h2⟩, fun _ => ho u hu h2⟩
    · rw [h.all u h1 (by omega)]
      constructor
      · rintro ⟨y, hy, q1, q2⟩
        rcases List.mem_append.1 hy with hy | hy
        · exact ⟨y, List.mem_append_left _ hy, q1, q2⟩
        · simp at hy; subst hy
          exact ⟨⟨y.from_, b⟩, by simp, q1, by simp only; omega⟩
      · rintro ⟨y, hy, q1, q2⟩
        rcases List.mem_append.1 hy with hy | hy
        · exact ⟨y, List.mem_append_left _ hy, q1, q2⟩
        · simp at hy; subst hy; simp only at q1 q2
          exact ⟨x, by simp, q1, by omega⟩
/-- one step of the sweep -/
theorem apart_step {O : Int → Prop} {f a b : Int} {out : List cal_Span} (h : Apart O f a out) (hf : f ≤ a) (hb : a < b) (ho : ∀ u, a ≤ u → u < b → O u) : Apart O f b (stepJ out a b) := by
  unfold stepJ
  rcases List.eq_nil_or_concat out with rfl | ⟨l, x, rfl⟩
  · simp only [List.getLast?_nil]
    exact apart_newG h hf hb ho (by simp)
  · rw [List.concat_eq_append] at h ⊢
    rw [List.getLast?_concat]
    simp only
    by_cases hx : x.to_ = a
    · rw [if_pos hx, List.dropLast_concat]
      exact apart_growG h hb ho hx
    · rw [if_neg hx]
      refine apart_newG h hf hb ho fun y hy => ?_
      have hxe := h.each x (by simp)
      rcases List.mem_append.1 hy with hy | hy
      · have := (List.pairwise_append.1 h.apart).2.2 y hy x (by simp)
        omega
      · simp at hy; subst hy; omega
theorem merge_apart (H : Int → Bool) (f t : Int) : ∀ (cuts : List Int) (a : Int) (out : List cal_Span), (∀ x ∈ a :: cuts, x ≤ t) → f ≤ a → (a :: cuts).Pairwise (· < ·) →
    (∀ x m, a ≤ x → x ≤ m → (∀ y ∈ a :: cuts, y ≤ x ∨ m < y) → H m = H x) → (∀ m, (∀ y ∈ a :: cuts, y ≤ m) → H m = false) → Apart (fun m => H m = true) f a out → Apart (fun m => H m = true) f t (mergeF H (a :: cuts) out)
  | [], a, out, h1, hf, h2, h3, h4, h => by
    rw [mergeF]
    · refine apart_waitG h (h1 a (by simp)) fun u q1 q2 => ?_
      have := h4 u (by simpa using q1)
      simp [this]
    · intro _ _ _ e; cases e
  | b :: r, a, out, h1, hf, h2, h3, h4, h => by
    rw [mergeF]
    have hp := List.pairwise_cons.1 h2
    have hab := hp.1 b (by simp)
    have hbr := List.pairwise_cons.1 hp.2
    have hc : ∀ u, a ≤ u → u < b → H u = H a := fun u q1 q2 => h3 a u (Int.le_refl _) q1 fun y hy => by
      rcases List.mem_cons.1 hy with rfl | hy
      · exact .inl (Int.le_refl _)
      · rcases List.mem_cons.1 hy with rfl | hy
        · exact .inr q2
        · have := hbr.1 y hy; exact .inr (by omega)
    refine merge_apart H f t r b _ (fun x hx => h1 x (List.mem_cons_of_mem _ hx)) (by omega) hp.2 (fun x m q1 q2 q3 => h3 x m (by omega) q2 fun y hy => ?_) (fun m q => h4 m fun y hy => ?_) ?_
    · rcases List.mem_cons.1 hy with rfl | hy
      · exact .inl (by omega)
      · exact q3 y hy
    · rcases List.mem_cons.1 hy with rfl | hy
      · have := q b (by simp); omega
      · exact q y hy
    · split
      · rename_i hH
        exact apart_step h hf hab fun u q1 q2 => by rw [hc u q1 q2, hH]
      · rename_i hH
        exact apart_waitG h (by omega) fun u q1 q2 => by rw [hc u q1 q2]; exact hH

/-! how many spans are open -/

theorem opened_append (m : Int) (l k : List cal_Span) : opened m (l ++ k) = opened m l + opened m k := by
  unfold opened
  rw [List.filter_append, List.length_append]
  omega
theorem opened_same (x m : Int) (l : List cal_Span) (h : ∀ s ∈ l, (s.from_ ≤ x ∧ x < s.to_) ↔ (s.from_ ≤ m ∧ m < s.to_)) : opened m l = opened x l := by
  unfold opened
  congr 2
  refine List.filter_congr fun s hs => ?_
  have := h s hs
  simp only [decide_eq_decide]
  exact this.symm
theorem opened_none (m : Int) (l : List cal_Span) (h : ∀ s ∈ l, ¬ (s.from_ ≤ m ∧ m < s.to_)) : opened m l = 0 := by
  unfold opened
  rw [List.filter_eq_nil_iff.2 fun s hs => by simpa using h s hs]
  rfl
/-- of spans that lie apart, one holds the moment at most -/
theorem opened_apart {O : Int → Prop} {a b : Int} {l : List cal_Span} (h : Apart O a b l) (m : Int) (h1 : a ≤ m) (h2 : m < b) : (O m → opened m l = 1) ∧ (¬ O m → opened m l = 0) := by
  refine ⟨fun ho => ?_, fun hn => opened_none m l fun s hs q => hn ((h.all m h1 h2).2 ⟨s, hs, q⟩)⟩
  obtain ⟨x, hx, q⟩ := (h.all m h1 h2).1 ho
  obtain ⟨p, r, rfl⟩ := List.append_of_mem hx
  have hp := List.pairwise_append.1 h.apart
  have hr := List.pairwise_cons.1 hp.2.1
  rw [show p ++ x :: r = p ++ ([x] ++ r) from rfl, opened_append, opened_append, opened_none m p, opened_none m r]
  · simp [opened, q]
  · intro s hs e
    have := hr.1 s hs
    omega
  · intro s hs e
    have := hp.2.2 s hs x (by simp)
    omega
end Go.Proofs.Ytoflhekllembeaa.M
