/-
  Templates: what the reader's texts end at: plain part.
-/
import Derived.Test.YtfdhiclmjfkflaaDoorTemplateFillsTplText
namespace Go.Proofs.YtfdhiclmjfkflaaDoor.M
open Go Go.Pu
set_option linter.unusedSimpArgs false
set_option linter.unusedVariables false

/-- what is read on from a place: the text, whether it is right, where it ends -/
def rd (st bd : UInt8 → Bool) (ok b : List UInt8) (i : Nat) : List UInt8 × Bool × Nat :=
  if h : i < b.length then
    if st b[i] = true then ([], true, i)
    else if b[i] = 92 then (if (esc b ok i).2.1 = true then ((esc b ok i).1 ++ (rd st bd ok b (i + 2)).1, (rd st bd ok b (i + 2)).2) else ([], false, (esc b ok i).2.2))
    else if bd b[i] = true then ([], false, i)
    else (b[i] :: (rd st bd ok b (i + 1)).1, (rd st bd ok b (i + 1)).2)
  else ([], true, i)
termination_by b.length - i
theorem esc_right {b ok : List UInt8} {i : Nat} (h : (esc b ok i).2.1 = true) : (esc b ok i).2.2 = i + 2 := by
  unfold esc at h ⊢
  split
  · split
    · rfl
    · rename_i h1 h2; rw [h1] at h; simp only [h2] at h; cases h
  · rename_i h1; rw [h1] at h; cases h
theorem esc_wrong {b ok : List UInt8} {i : Nat} (h : (esc b ok i).2.1 = false) : (esc b ok i).1 = [] := by
  unfold esc at h ⊢
  cases hb : b[i + 1]? with
  | none => rfl
  | some d =>
    rw [hb] at h
    simp only at h ⊢
    cases hk : ok.contains d
    · rfl
    · rw [hk] at h; cases h
theorem rd_fin {st bd : UInt8 → Bool} {ok b : List UInt8} {i : Nat} (h : b[i]? = none) : rd st bd ok b i = ([], true, i) := by
  rw [rd, dif_neg]; intro h1; rw [List.getElem?_eq_getElem h1] at h; cases h
theorem rd_stop {st bd : UInt8 → Bool} {ok b : List UInt8} {i : Nat} {c : UInt8} (h : b[i]? = some c) (h1 : st c = true) : rd st bd ok b i = ([], true, i) := by
  obtain ⟨hl, rfl⟩ := List.getElem?_eq_some_iff.1 h
  rw [rd, dif_pos hl, if_pos h1]
theorem rd_escB {st bd : UInt8 → Bool} {ok b : List UInt8} {i : Nat} (h : b[i]? = some 92) (h1 : st 92 = false) (h2 : (esc b ok i).2.1 = false) : rd st bd ok b i = ([], false, (esc b ok i).2.2) := by
  obtain ⟨hl, he⟩ := List.getElem?_eq_some_iff.1 h
  rw [rd, dif_pos hl, he, if_neg (by simp [h1]), if_pos rfl, if_neg (by simp [h2])]
theorem rd_escK {st bd : UInt8 → Bool} {ok b : List UInt8} {i : Nat} (h : b[i]? = some 92) (h1 : st 92 = false) (h2 : (esc b ok i).2.1 = true) : rd st bd ok b i = ((esc b ok i).1 ++ (rd st bd ok b (esc b ok i).2.2).1, (rd st bd ok b (esc b ok i).2.2).2) := by
  obtain ⟨hl, he⟩ := List.getElem?_eq_some_iff.1 h
  rw [rd, dif_pos hl, he, if_neg (by simp [h1]), if_pos rfl, if_pos h2, esc_right h2]
theorem rd_bad {st bd : UInt8 → Bool} {ok b : List UInt8} {i : Nat} {c : UInt8} (h : b[i]? = some c) (h1 : st c = false) (h2 : c ≠ 92) (h3 : bd c = true) : rd st bd ok b i = ([], false, i) := by
  obtain ⟨hl, rfl⟩ := List.getElem?_eq_some_iff.1 h
  rw [rd, dif_pos hl, if_neg (by simp [h1]), if_neg h2, if_pos h3]
theorem rd_byte {st bd : UInt8 → Bool} {ok b : List UInt8} {i : Nat} {c : UInt8} (h : b[i]? = some c) (h1 : st c = false) (h2 : c ≠ 92) (h3 : bd c = false) : rd st bd ok b i = ([c] ++ (rd st bd ok b (i + 1)).1, (rd st bd ok b (i + 1)).2) := by
  obtain ⟨hl, rfl⟩ := List.getElem?_eq_some_iff.1 h
  rw [rd, dif_pos hl, if_neg (by simp [h1]), if_neg h2, if_neg (by simp [h3])]; rfl
theorem u8_eq (c : UInt8) (n : Nat) (hn : n < 256) : ((c.toNat : Int) == (n : Int)) = (c == UInt8.ofNat n) := by
  rw [Bool.eq_iff_iff, beq_iff_eq, beq_iff_eq]
  constructor
  · intro h
    apply UInt8.toNat_inj.1
    rw [UInt8.toNat_ofNat']
    omega
  · rintro rfl
    rw [UInt8.toNat_ofNat']
    omega
theorem bad_write (b t : ByteArray) (h : b.size + t.size ≤ 140737488355328) : strings_Builder_WriteString b t = some ((t.size : Int), (), b ++ t) := by
  unfold strings_Builder_WriteString; rw [if_pos h]
theorem bad_byte (b : ByteArray) (c : UInt8) (h : b.size + 1 ≤ 140737488355328) : strings_Builder_WriteByte b c = some ((), b ++ ⟨#[c]⟩) := by
  unfold strings_Builder_WriteByte; rw [if_pos h]
def stT (c : UInt8) : Bool := c == 123
/-- the texts between fields -/
def rdT (b : List UInt8) (i : Nat) : List UInt8 × Bool × Nat := rd stT (fun _ => false) [123, 92] b i
theorem text_val (s : ByteArray) (hs : s.size ≤ 20000) (i : Nat) (hi : i ≤ s.size) : know_templateReader_text ⟨s, (i : Int), false⟩ = some (toB (rdT s.data.toList i).1, ⟨s, ((rdT s.data.toList i).2.2 : Int), !(rdT s.data.toList i).2.1⟩) ∧ i + (rdT s.data.toList i).1.length ≤ (rdT s.data.toList i).2.2 ∧ (rdT s.data.toList i).2.2 ≤ s.size := by
  unfold know_templateReader_text
  obtain ⟨o, ho, t, r, rfl, h1, h2, h3⟩ := whileB_spec (R := ByteArray × know_templateReader) (body := fun s15 : ByteArray × know_templateReader => Option.bind (if ((!s15.2.wrong) && (decide (s15.2.at_ < (s15.2.s.size : Int)))) = true then (Option.bind (idxS s15.2.s s15.2.at_) fun x31 => some ((x31.toNat : Int) != 123)) else (some false)) fun s30 => if s30 = true then Option.bind (Option.bind (idxS s15.2.s s15.2.at_) fun x45 => if ((x45.toNat : Int) == 92) = true then Option.bind (know_templateReader_escaped s15.2 (⟨#[123, 92]⟩ : ByteArray)) fun x50 => Option.bind (strings_Builder_WriteString s15.1 x50.1) fun x55 => some (x55.2.2, x50.2) else Option.bind (strings_Builder_WriteByte s15.1 x45) fun x64 => some (x64.2, (⟨s15.2.s, w64 (s15.2.at_ + 1), s15.2.wrong⟩ : know_templateReader))) fun s38 => some (.nx (s38.1, s38.2)) else some (.bk (s15.1, s15.2)))
    (fun z => ∃ (t : List UInt8) (r : Bool × Nat), z = (toB t, ⟨s, (r.2 : Int), !r.1⟩) ∧ i ≤ r.2 ∧ r.2 ≤ s.size ∧ i + t.length ≤ r.2 ∧ (r.1 = false → rdT s.data.toList i = (t, r)) ∧ (r.1 = true → rdT s.data.toList i = (t ++ (rdT s.data.toList r.2).1, (rdT s.data.toList r.2).2))) (fun z => s.size + 1 - z.2.at_.toNat + (if z.2.wrong then 0 else 1))
    (fun o => ∃ (t : List UInt8) (r : Bool × Nat), o = .fin (toB t, ⟨s, (r.2 : Int), !r.1⟩) ∧ rdT s.data.toList i = (t, r) ∧ i + t.length ≤ r.2 ∧ r.2 ≤ s.size) (s := (toB [], ⟨s, (i : Int), false⟩))
    ⟨[], (true, i), rfl, Nat.le_refl _, hi, Nat.le_refl _, (fun h => by cases h), fun _ => by simp⟩ (by
      rintro _ ⟨t, ⟨w, j⟩, rfl, j1, j2, j3, j4, j5⟩
      simp only at j1 j2 j3 j4 j5 ⊢
      cases w with
      | false =>
        simp only [Bool.not_false, Bool.not_true, Bool.false_and, Bool.false_eq_true, if_false, Option.bind_some]
        exact ⟨_, rfl, t, (false, j), rfl, j4 rfl, j3, j2⟩
      | true =>
        simp only [Bool.not_true, Bool.not_false, Bool.true_and]
        have k5 := j5 rfl
        by_cases hj : j < s.size
        rotate_left
        · simp only [show ¬ ((j : Int) < (s.size : Int)) by omega, decide_false, Bool.false_eq_true, if_false, Option.bind_some]
          exact ⟨_, rfl, t, (true, j), rfl, by rw [k5, rdT, rd_fin (List.getElem?_eq_none (by rw [t_len]; omega))]; simp, j3, j2⟩
        have hjl : j < s.data.toList.length := by rw [t_len]; exact hj
        have hc := List.getElem?_eq_getElem hjl
        generalize s.data.toList[j] = c at hc
        simp only [show ((j : Int) < (s.size : Int)) by omega, decide_true, if_true, t_idxS, hc, Option.bind_some]
        have e1 : ((c.toNat : Int) != 123) = !(stT c) := by unfold stT; rw [bne, show ((123 : Int)) = ((123 : Nat) : Int) from rfl, u8_eq c 123 (by omega)]; rfl
        have e2 : ((c.toNat : Int) == 92) = (c == 92) := by rw [show ((92 : Int)) = ((92 : Nat) : Int) from rfl, u8_eq c 92 (by omega)]; rfl
        rw [e1, e2]
        by_cases hst : stT c = true
        · rw [hst]
          simp only [Bool.not_true, Bool.false_eq_true, if_false]
          exact ⟨_, rfl, t, (true, j), rfl, by rw [k5, rdT, rd_stop hc hst]; simp, j3, j2⟩
        have hst' : stT c = false := by simpa using hst
        rw [hst']
        simp only [Bool.not_false, if_true]
        by_cases h92 : c = 92
        · subst h92
          obtain ⟨hu, u1, u2, u3⟩ := escaped_val s hs [123, 92] j hj
          rw [if_pos (by decide)]
          have hu' : know_templateReader_escaped ⟨s, (j : Int), false⟩ (⟨#[123, 92]⟩ : ByteArray) = _ := hu
          rw [hu', Option.bind_some, bad_write _ _ (by rw [toB_size, toB_size]; omega), Option.bind_some, Option.bind_some]
          generalize hE : esc s.data.toList [123, 92] j = E at u1 u2 u3
          refine ⟨_, rfl, ⟨t ++ E.1, E.2, by rw [toB_app], by omega, u3, ?_, fun h => ?_, fun h => ?_⟩, ?_⟩
          · rw [List.length_append]
            rcases hE2 : E.2.1 with _ | _
            · have : E.1 = [] := by rw [← hE] at hE2 ⊢; exact esc_wrong hE2
              rw [this]; simp; omega
            · have := esc_right (b := s.data.toList) (i := j) (by rw [hE]; exact hE2)
              rw [hE] at this; omega
          · rw [k5, rdT, rd_escB hc hst' (by rw [hE]; exact h), hE]
            have : E.1 = [] := by rw [← hE] at h ⊢; exact esc_wrong h
            rw [this, ← h]
          · rw [k5, rdT, rd_escK hc hst' (by rw [hE]; exact h), hE, List.append_assoc]; rfl
          · simp only [Int.toNat_natCast]
            split <;> simp <;> omega
        · rw [if_neg (by simpa using h92), bad_byte _ _ (by rw [toB_size]; omega), Option.bind_some, Option.bind_some]
          have hwi : w64 ((j : Int) + 1) = ((j + 1 : Nat) : Int) := by rw [w64_id (by omega) (by omega)]; rfl
          simp only [hwi]
          refine ⟨_, rfl, ⟨t ++ [c], (true, j + 1), by rw [show (⟨#[c]⟩ : ByteArray) = toB [c] from rfl, toB_app]; rfl, by simp only; omega, by simp only; omega, by simp; omega, (fun h => by cases h), fun _ => by rw [k5, rdT, rd_byte hc hst' h92 rfl, List.append_assoc]; rfl⟩, ?_⟩
          · simp only [Int.toNat_natCast]
            simp; omega)
  have ho2 : whileB (R := ByteArray × know_templateReader) _ (ByteArray.empty, (⟨s, (i : Int), false⟩ : know_templateReader)) = _ := ho
  rw [ho2, Option.bind_some, Lp.andThen_fin]
  rw [h1]; exact ⟨rfl, h2, h3⟩
def bdC (c : UInt8) : Bool := c == 123 || c == 125 || c == 10
/-- the texts in fields -/
def rdC (ends b : List UInt8) (i : Nat) : List UInt8 × Bool × Nat := rd (fun c => ends.contains c) bdC [125, 58, 124, 123, 92] b i
theorem choice_val (s : ByteArray) (hs : s.size ≤ 20000) (ends : List UInt8) (h92e : ends.contains 92 = false) (i : Nat) (hi : i ≤ s.size) : know_templateReader_choice ⟨s, (i : Int), false⟩ ⟨ends.toArray⟩ = some (toB (rdC ends s.data.toList i).1, ⟨s, ((rdC ends s.data.toList i).2.2 : Int), !(rdC ends s.data.toList i).2.1⟩) ∧ i + (rdC ends s.data.toList i).1.length ≤ (rdC ends s.data.toList i).2.2 ∧ (rdC ends s.data.toList i).2.2 ≤ s.size := by
  unfold know_templateReader_choice
  obtain ⟨o, ho, t, r, rfl, h1, h2, h3⟩ := whileB_spec (R := ByteArray × know_templateReader) (body := fun s15 : ByteArray × know_templateReader => Option.bind (if ((!s15.2.wrong) && (decide (s15.2.at_ < (s15.2.s.size : Int)))) = true then (Option.bind (idxS s15.2.s s15.2.at_) fun x31 => some (decide ((strings_IndexByte ⟨ends.toArray⟩ (x31.toNat : Int)) < 0))) else (some false)) fun s30 => if s30 = true then Option.bind (Option.bind (idxS s15.2.s s15.2.at_) fun x45 => Option.bind (Option.bind (if ((x45.toNat : Int) == 92) = true then Option.bind (know_templateReader_escaped s15.2 (⟨#[125, 58, 124, 123, 92]⟩ : ByteArray)) fun x66 => Option.bind (strings_Builder_WriteString s15.1 x66.1) fun x71 => some (x71.2.2, x66.2) else Option.bind (if ((x45.toNat : Int) == 123) = true then some ((x45.toNat : Int) == 123) else Option.bind (if ((x45.toNat : Int) == 125) = true then some ((x45.toNat : Int) == 125) else some ((x45.toNat : Int) == 10)) fun s86 => some s86) fun s78 => Option.bind (if s78 = true then some (s15.1, (⟨s15.2.s, s15.2.at_, true⟩ : know_templateReader)) else Option.bind (strings_Builder_WriteByte s15.1 x45) fun x108 => some (x108.2, (⟨s15.2.s, w64 (s15.2.at_ + 1), s15.2.wrong⟩ : know_templateReader))) fun s96 => some (s96.1, s96.2)) fun s58 => some (s58.1, s58.2)) fun s50 => some (s50.1, s50.2)) fun s38 => some (.nx (s38.1, s38.2)) else some (.bk (s15.1, s15.2)))
    (fun z => ∃ (t : List UInt8) (r : Bool × Nat), z = (toB t, ⟨s, (r.2 : Int), !r.1⟩) ∧ i ≤ r.2 ∧ r.2 ≤ s.size ∧ i + t.length ≤ r.2 ∧ (r.1 = false → rdC ends s.data.toList i = (t, r)) ∧ (r.1 = true → rdC ends s.data.toList i = (t ++ (rdC ends s.data.toList r.2).1, (rdC ends s.data.toList r.2).2))) (fun z => s.size + 1 - z.2.at_.toNat + (if z.2.wrong then 0 else 1))
    (fun o => ∃ (t : List UInt8) (r : Bool × Nat), o = .fin (toB t, ⟨s, (r.2 : Int), !r.1⟩) ∧ rdC ends s.data.toList i = (t, r) ∧ i + t.length ≤ r.2 ∧ r.2 ≤ s.size) (s := (toB [], ⟨s, (i : Int), false⟩))
    ⟨[], (true, i), rfl, Nat.le_refl _, hi, Nat.le_refl _, (fun h => by cases h), fun _ => by simp⟩ (by
      rintro _ ⟨t, ⟨w, j⟩, rfl, j1, j2, j3, j4, j5⟩
      simp only at j1 j2 j3 j4 j5 ⊢
      cases w with
      | false =>
        simp only [Bool.not_false, Bool.not_true, Bool.false_and, Bool.false_eq_true, if_false, Option.bind_some]
        exact ⟨_, rfl, t, (false, j), rfl, j4 rfl, j3, j2⟩
      | true =>
        simp only [Bool.not_true, Bool.not_false, Bool.true_and]
        have k5 := j5 rfl
        by_cases hj : j < s.size
        rotate_left
        · simp only [show ¬ ((j : Int) < (s.size : Int)) by omega, decide_false, Bool.false_eq_true, if_false, Option.bind_some]
          exact ⟨_, rfl, t, (true, j), rfl, by rw [k5, rdC, rd_fin (List.getElem?_eq_none (by rw [t_len]; omega))]; simp, j3, j2⟩
        have hjl : j < s.data.toList.length := by rw [t_len]; exact hj
        have hc := List.getElem?_eq_getElem hjl
        generalize s.data.toList[j] = c at hc
        simp only [show ((j : Int) < (s.size : Int)) by omega, decide_true, if_true, t_idxS, hc, Option.bind_some]
        have e2 : ((c.toNat : Int) == 92) = (c == 92) := by rw [show ((92 : Int)) = ((92 : Nat) : Int) from rfl, u8_eq c 92 (by omega)]; rfl
        have e3 : (if ((c.toNat : Int) == 123) = true then some ((c.toNat : Int) == 123) else Option.bind (if ((c.toNat : Int) == 125) = true then some ((c.toNat : Int) == 125) else some ((c.toNat : Int) == 10)) fun s86 => some s86) = some (bdC c) := by
          unfold bdC
          rw [show ((123 : Int)) = ((123 : Nat) : Int) from rfl, show ((125 : Int)) = ((125 : Nat) : Int) from rfl, show ((10 : Int)) = ((10 : Nat) : Int) from rfl, u8_eq c 123 (by omega), u8_eq c 125 (by omega), u8_eq c 10 (by omega)]
          by_cases q1 : c = 123
          · subst q1; rfl
          · by_cases q2 : c = 125
            · subst q2; rfl
            · have q1' : (c == UInt8.ofNat 123) = false := by simpa using q1
              have q2' : (c == UInt8.ofNat 125) = false := by simpa using q2
              have q1'' : (c == 123) = false := q1'
              have q2'' : (c == 125) = false := q2'
              rw [q1', q2', q1'', q2'']; rfl
        rw [ib_val, e2]
        by_cases hst : (ends.contains c) = true
        · rw [hst]
          simp only [Bool.not_true, Bool.false_eq_true, if_false]
          exact ⟨_, rfl, t, (true, j), rfl, by rw [k5, rdC, rd_stop hc hst]; simp, j3, j2⟩
        have hst' : (ends.contains c) = false := by simpa using hst
        rw [hst']
        simp only [Bool.not_false, if_true]
        by_cases h92 : c = 92
        · subst h92
          obtain ⟨hu, u1, u2, u3⟩ := escaped_val s hs [125, 58, 124, 123, 92] j hj
          rw [if_pos (by decide)]
          have hu' : know_templateReader_escaped ⟨s, (j : Int), false⟩ (⟨#[125, 58, 124, 123, 92]⟩ : ByteArray) = _ := hu
          rw [hu', Option.bind_some, bad_write _ _ (by rw [toB_size, toB_size]; omega), Option.bind_some, Option.bind_some]
          generalize hE : esc s.data.toList [125, 58, 124, 123, 92] j = E at u1 u2 u3
          refine ⟨_, rfl, ⟨t ++ E.1, E.2, by rw [toB_app], by omega, u3, ?_, fun h => ?_, fun h => ?_⟩, ?_⟩
          · rw [List.length_append]
            rcases hE2 : E.2.1 with _ | _
            · have : E.1 = [] := by rw [← hE] at hE2 ⊢; exact esc_wrong hE2
              rw [this]; simp; omega
            · have := esc_right (b := s.data.toList) (i := j) (by rw [hE]; exact hE2)
              rw [hE] at this; omega
          · rw [k5, rdC, rd_escB hc hst' (by rw [hE]; exact h), hE]
            have : E.1 = [] := by rw [← hE] at h ⊢; exact esc_wrong h
            rw [this, ← h]
          · rw [k5, rdC, rd_escK hc hst' (by rw [hE]; exact h), hE, List.append_assoc]; rfl
          · simp only [Int.toNat_natCast]
            split <;> simp <;> omega
        · rw [if_neg (by simpa using h92), e3, Option.bind_some]
          by_cases hbd : bdC c = true
          · rw [if_pos hbd]
            simp only [Option.bind_some]
            refine ⟨_, rfl, ⟨t, (false, j), rfl, j1, j2, j3, fun _ => by rw [k5, rdC, rd_bad hc hst' h92 hbd]; simp, (fun h => by cases h)⟩, ?_⟩
            simp only [Int.toNat_natCast]
            simp
          · rw [if_neg hbd, bad_byte _ _ (by rw [toB_size]; omega)]
            have hwi : w64 ((j : Int) + 1) = ((j + 1 : Nat) : Int) := by rw [w64_id (by omega) (by omega)]; rfl
            simp only [Option.bind_some, hwi]
            refine ⟨_, rfl, ⟨t ++ [c], (true, j + 1), by rw [show (⟨#[c]⟩ : ByteArray) = toB [c] from rfl, toB_app]; rfl, by simp only; omega, by simp only; omega, by simp; omega, (fun h => by cases h), fun _ => by rw [k5, rdC, rd_byte hc hst' h92 (by simpa using hbd), List.append_assoc]; rfl⟩, ?_⟩
            · simp only [Int.toNat_natCast]
              simp; omega)
  have ho2 : whileB (R := ByteArray × know_templateReader) _ (ByteArray.empty, (⟨s, (i : Int), false⟩ : know_templateReader)) = _ := ho
  rw [ho2, Option.bind_some, Lp.andThen_fin]
  rw [h1]; exact ⟨rfl, h2, h3⟩
end Go.Proofs.YtfdhiclmjfkflaaDoor.M
