/-
  Spans, Worked and their references agree: plain part.
-/
import Derived.Test.YtjmgafmjendnaaaCalSpansCalApart
namespace Go.Proofs.Ytjmgafmjendnaaa.M
open Go Go.Pu

theorem equal_spans (l : List cal_Span) : slices_Equal_Lcal_Span_cal_Span l l = some true := by
  unfold slices_Equal_Lcal_Span_cal_Span
  simp only [bne_self_eq_false, Bool.false_eq_true, if_false]
  obtain ⟨t, h, _⟩ := rangeB_inv (R := Bool) (b := fun k9 (_ : Unit) => Option.bind (idx l (k9 : Int)) fun x29 => Option.bind (idx l (k9 : Int)) fun x34 => if (!(x29.from_ == x34.from_ && (x29.to_ == x34.to_))) = true then some (.rt false) else some (.nx ())) l.length (fun _ _ => True) (s := ()) trivial
    (fun k s hk _ => by rw [idx_lt _ _ hk]; simp)
  rw [h]
  rfl

theorem spansOf_val (from_ to_ : Int) (holds : Int → Option Bool) (O : Int → Prop) (h0 : 0 ≤ from_) (h1 : from_ ≤ to_) (h2 : to_ ≤ 3000001) (hh : ∀ m, from_ ≤ m → m < to_ → ∃ b, holds m = some b ∧ (b = true ↔ O m)) :
    ∃ l, portref2_spansOf from_ to_ holds = some l ∧ Apart O from_ to_ l := by
  unfold portref2_spansOf
  obtain ⟨o, ho, l, q, rfl, hl⟩ := whileB_spec (R := List cal_Span) (body := fun s12 : List cal_Span × Int => if (decide (s12.2 < to_)) = true then Option.bind (Option.bind (holds s12.2) fun x36 => if (!x36) = true then some s12.1 else Option.bind (if (decide ((0 : Int) < (s12.1.length : Int))) = true then (Option.bind (idx s12.1 (w64 ((s12.1.length : Int) - 1))) fun x45 => some (x45.to_ == s12.2)) else (some false)) fun s44 => Option.bind (if s44 = true then Option.bind (idx s12.1 (w64 ((s12.1.length : Int) - 1))) fun x62 => Option.bind (setI s12.1 (w64 ((s12.1.length : Int) - 1)) ({ (x62 : cal_Span) with to_ := w64 (x62.to_ + 1) })) fun x73 => some x73 else Option.bind (appendL 8796093022208 s12.1 ([(⟨s12.2, w64 (s12.2 + 1)⟩ : cal_Span)] : List cal_Span)) fun x83 => some x83) fun s52 => some s52) fun s27 => some (.nx (s27, w64 (s12.2 + 1))) else some (.bk (s12.1, s12.2)))
    (fun s => from_ ≤ s.2 ∧ s.2 ≤ to_ ∧ Apart O from_ s.2 s.1 ∧ (s.1.length : Int) ≤ s.2) (fun s => (to_ - s.2).toNat) (fun o => ∃ l q, o = .fin (l, q) ∧ Apart O from_ to_ l) (s := ([], from_))
    ⟨Int.le_refl _, h1, ⟨fun x hx => by simp at hx, .nil, fun m q1 q2 => by simp only at q2; omega⟩, by simpa using h0⟩ (by
      rintro ⟨l, m⟩ ⟨i1, i2, i3, i4⟩
      simp only at i1 i2 i3 i4 ⊢
      by_cases hm : m < to_
      rotate_left
      · simp only [hm, decide_false, Bool.false_eq_true, if_false]
        obtain rfl : m = to_ := by omega
        exact ⟨_, rfl, l, m, rfl, i3⟩
      obtain ⟨b, hb, hbo⟩ := hh m i1 hm
      have hw1 : w64 (m + 1) = m + 1 := w64_id (by omega) (by omega)
      simp only [hm, decide_true, if_true, hb, Option.bind_some, hw1]
      cases b with
      | false =>
        simp only [Bool.not_false, if_true, Option.bind_some]
        exact ⟨_, rfl, ⟨by omega, by omega, apart_wait i3 (fun h => by have := hbo.2 h; cases this), by simp only; omega⟩, by simp only; omega⟩
      | true =>
        have ho : O m := hbo.1 rfl
        simp only [Bool.not_true, Bool.false_eq_true, if_false]
        rcases List.eq_nil_or_concat l with rfl | ⟨l0, x, rfl⟩
        · simp only [List.length_nil, show ¬ (0 : Int) < ((0 : Nat) : Int) by decide, decide_false, Bool.false_eq_true, if_false, Option.bind_some]
          rw [appendL, if_pos (by simp)]
          refine ⟨_, rfl, ⟨by omega, by omega, ?_, by simp; omega⟩, by simp only; omega⟩
          exact apart_new i3 i1 ho (by simp)
        · have hlen : (((l0.concat x).length : Int) - 1) = (l0.length : Int) := by simp
          have hw2 : w64 (((l0.concat x).length : Int) - 1) = (l0.length : Int) := by rw [hlen]; simp at i4; exact w64_id (by omega) (by omega)
          have hpos : (0 : Int) < ((l0.concat x).length : Int) := by rw [List.length_concat]; omega
          have hg : (l0.concat x)[l0.length]? = some x := by simp
          rw [List.concat_eq_append] at i3
          have hxe := i3.each x (by simp)
          simp only [hpos, decide_true, if_true, hw2, idx_nat, hg, Option.bind_some]
          by_cases hx : x.to_ = m
          · have hxb : (x.to_ == m) = true := by simpa using hx
            have hs : setI (l0.concat x) (l0.length : Int) (⟨x.from_, w64 (x.to_ + 1)⟩ : cal_Span) = some (l0 ++ [⟨x.from_, m + 1⟩]) := by
              rw [setI, if_pos ⟨by omega, by simp⟩, hx, hw1, List.concat_eq_append]
              congr 1
              rw [Int.toNat_natCast, List.set_append_right _ _ (by simp)]
              simp
            simp only [hxb, if_true, hs, Option.bind_some]
            refine ⟨_, rfl, ⟨by omega, by omega, apart_grow i3 ho hx, by simp at i4 ⊢; omega⟩, by simp only; omega⟩
          · have hxb : (x.to_ == m) = false := by simpa using hx
            simp only [hxb, Bool.false_eq_true, if_false]
            rw [appendL, if_pos (by simp at i4 ⊢; omega)]
            refine ⟨_, rfl, ⟨by omega, by omega, ?_, by simp at i4 ⊢; omega⟩, by simp only; omega⟩
            rw [List.concat_eq_append]
            refine apart_new i3 i1 ho fun y hy => ?_
            rcases List.mem_append.1 hy with hy | hy
            · have := (List.pairwise_append.1 i3.apart).2.2 y hy x (by simp)
              omega
            · simp at hy; subst hy; omega)
  rw [ho]
  exact ⟨l, rfl, hl⟩

theorem spans_true (c : cal_Calendar) (from_ to_ : Int) : portlaw2_CalSpans c from_ to_ = some true := by
  obtain ⟨r, a1, b1, c1⟩ := cal_eq c
  have hnil : slices_Equal_Lcal_Span_cal_Span [] [] = some true := equal_spans []
  unfold portlaw2_CalSpans cal_Spans cal_Worked portref2_SpansIn
  simp only [a1, b1, Option.bind_some, or_two]
  by_cases hr : r = 0
  rotate_left
  · have h1 : (r != 0) = true := by simpa using hr
    simp [hr, hnil, rangeB, Lp.andThen]
  have hc := c1 hr
  subst hr
  have hst : portref2_rangeFault from_ to_ = cal_stretch from_ to_ := by
    unfold portref2_rangeFault cal_stretch
    have e : ((!(portref2_IsMoment from_)) || (!(portref2_IsEnd to_))) = ((!(cal_within from_ 0 3000000)) || (!(cal_within to_ 0 3000001))) := by
      unfold portref2_IsMoment portref2_IsEnd cal_within
      rfl
    rw [e]
  simp only [ne_eq, not_true, if_false, bne_self_eq_false, Bool.false_eq_true, hst]
  by_cases hs : cal_stretch from_ to_ = 0
  rotate_left
  · have h1 : (cal_stretch from_ to_ != 0) = true := by simpa using hs
    simp [h1, hnil, rangeB, Lp.andThen]
  have hb : (0 ≤ from_ ∧ from_ ≤ 3000000) ∧ (0 ≤ to_ ∧ to_ ≤ 3000001) ∧ from_ ≤ to_ := by
    unfold cal_stretch at hs
    split at hs
    · cases hs
    · rename_i h
      simp [cal_within] at h
      split at hs
      · cases hs
      · rename_i h2
        simp at h2
        omega
  simp only [hs, bne_self_eq_false, Bool.false_eq_true, if_false, cal_Calendar_open, portref2_NewClock, Option.bind_some]
  have hop := open_spec hc from_ to_ (by omega) (by omega)
  have hlen := open_len hc from_ to_
  obtain ⟨l, hl, hla⟩ := spansOf_val from_ to_ (fun y40 => portref2_Clock_Open c y40) (Opn c) hb.1.1 hb.2.2 hb.2.1.2 (fun m q1 q2 => clock_open hc m (by omega) (by omega))
  have e := apart_unique _ _ _ _ hla hop
  subst e
  rw [open_val hc from_ to_ (by omega) (by omega), open_val hc from_ to_ (by omega) (by omega), iter_collect 8796093022208 (openL c from_ to_) [] (by simp; omega), hl]
  have hf := iter_fold (fun (s59 : Int) (x68 : cal_Span) => w64 (s59 + (w64 (x68.to_ - x68.from_)))) (openL c from_ to_) 0
  rw [hf]
  have hn : ¬ (50000 : Int) < ((openL c from_ to_).length : Int) := by omega
  simp only [Option.map_some, Option.bind_some, List.nil_append, hn, decide_false, Bool.false_eq_true, if_false, beq_self_eq_true, if_true, equal_spans]
  rw [range_fold (fun (s59 : Int) (x68 : cal_Span) => w64 (s59 + (w64 (x68.to_ - x68.from_)))) (openL c from_ to_) 0 _ (by
    intro k s x hx
    simp [idx_nat, hx])]
  simp [Lp.andThen]
end Go.Proofs.Ytjmgafmjendnaaa.M
