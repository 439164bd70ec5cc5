/-
  Templates: fields: plain part.
-/
import Derived.Test.YtfdhiclmjfkflaaDoorTemplateFillsTplRead
namespace Go.Proofs.YtfdhiclmjfkflaaDoor.M
open Go Go.Pu
set_option linter.unusedSimpArgs false
set_option linter.unusedVariables false

/-- what has to stand there -/
def mst (b : List UInt8) (c : UInt8) (r : Bool × Nat) : Bool × Nat := if r.1 = true then (if b[r.2]? = some c then (true, r.2 + 1) else (false, r.2)) else r
theorem must_val (s : ByteArray) (hs : s.size ≤ 20000) (c : UInt8) (r : Bool × Nat) (hr : r.2 ≤ s.size) : know_templateReader_must ⟨s, (r.2 : Int), !r.1⟩ (c.toNat : Int) = some ⟨s, ((mst s.data.toList c r).2 : Int), !(mst s.data.toList c r).1⟩ ∧ r.2 ≤ (mst s.data.toList c r).2 ∧ (mst s.data.toList c r).2 ≤ s.size := by
  obtain ⟨w, i⟩ := r
  unfold know_templateReader_must mst
  simp only at hr ⊢
  cases w with
  | false => exact ⟨by simp, by simp, by simpa using hr⟩
  | true =>
    simp only [Bool.not_true, Bool.false_eq_true, if_false, if_true]
    have hw : w64 ((i : Int) + 1) = ((i + 1 : Nat) : Int) := by rw [w64_id (by omega) (by omega)]; rfl
    by_cases hi : i < s.size
    · have hil : i < s.data.toList.length := by rw [t_len]; exact hi
      rw [if_pos (by simpa using hi), t_idxS, List.getElem?_eq_getElem hil]
      simp only [Option.bind_some]
      generalize s.data.toList[i] = d
      have e : ((d.toNat : Int) == (c.toNat : Int)) = (d == c) := by
        rw [Bool.eq_iff_iff, beq_iff_eq, beq_iff_eq]
        constructor
        · intro h; exact UInt8.toNat_inj.1 (by omega)
        · rintro rfl; rfl
      rw [e]
      by_cases hd : d = c
      · subst hd
        simp only [beq_self_eq_true, if_true, Option.bind_some, hw]
        exact ⟨by simp, by omega, by omega⟩
      · rw [if_neg (by simpa using hd), Option.bind_some, if_neg (by simpa using hd)]
        exact ⟨by simp, by simp, by simpa using hr⟩
    · have hn : s.data.toList[i]? = none := List.getElem?_eq_none (by rw [t_len]; omega)
      rw [if_neg (show ¬ (decide ((i : Int) < (s.size : Int)) = true) by simpa using hi), hn]
      simp only [Option.bind_some, Bool.false_eq_true, if_false]
      exact ⟨by simp, by simp, by simpa using hr⟩
/-- where a name ends: at most k bytes on -/
def nmE (b : List UInt8) : Nat → Nat → Nat
  | 0, i => i
  | k + 1, i => match b[i]? with
    | some c => if know_nameByte (c.toNat : Int) = true then nmE b k (i + 1) else i
    | none => i
theorem nmE_bound (b : List UInt8) : ∀ k i, i ≤ b.length → i ≤ nmE b k i ∧ nmE b k i ≤ b.length
  | 0, i, h => ⟨Nat.le_refl _, h⟩
  | k + 1, i, h => by
    rw [nmE]
    cases hc : b[i]? with
    | none => exact ⟨Nat.le_refl _, h⟩
    | some c =>
      have hl := (List.getElem?_eq_some_iff.1 hc).1
      simp only
      split
      · have := nmE_bound b k (i + 1) (by omega)
        omega
      · exact ⟨Nat.le_refl _, h⟩
theorem name_val (s : ByteArray) (hs : s.size ≤ 20000) (i : Nat) (hi : i ≤ s.size) (w : Bool) (R : Type) :
    whileB (R := R) (fun s25 : know_templateReader => Option.bind (if (((!s25.wrong) && (decide (s25.at_ < (s25.s.size : Int)))) && (decide ((w64 (s25.at_ - (i : Int))) < 20))) = true then (Option.bind (idxS s25.s s25.at_) fun x42 => some (know_nameByte (x42.toNat : Int))) else (some false)) fun s41 => if s41 = true then some (.nx (⟨s25.s, w64 (s25.at_ + 1), s25.wrong⟩ : know_templateReader)) else some (.bk s25)) ⟨s, (i : Int), w⟩
    = some (.fin ⟨s, ((if w = true then i else nmE s.data.toList 20 i : Nat) : Int), w⟩) := by
  cases w with
  | true =>
    obtain ⟨o, ho, rfl⟩ := whileB_spec (R := R) (body := fun s25 : know_templateReader => Option.bind (if (((!s25.wrong) && (decide (s25.at_ < (s25.s.size : Int)))) && (decide ((w64 (s25.at_ - (i : Int))) < 20))) = true then (Option.bind (idxS s25.s s25.at_) fun x42 => some (know_nameByte (x42.toNat : Int))) else (some false)) fun s41 => if s41 = true then some (.nx (⟨s25.s, w64 (s25.at_ + 1), s25.wrong⟩ : know_templateReader)) else some (.bk s25))
      (fun z => z = ⟨s, (i : Int), true⟩) (fun _ => 0) (fun o => o = .fin ⟨s, (i : Int), true⟩) rfl (by rintro _ rfl; exact ⟨_, rfl, rfl⟩)
    exact ho
  | false =>
    obtain ⟨o, ho, rfl⟩ := whileB_spec (R := R) (body := fun s25 : know_templateReader => Option.bind (if (((!s25.wrong) && (decide (s25.at_ < (s25.s.size : Int)))) && (decide ((w64 (s25.at_ - (i : Int))) < 20))) = true then (Option.bind (idxS s25.s s25.at_) fun x42 => some (know_nameByte (x42.toNat : Int))) else (some false)) fun s41 => if s41 = true then some (.nx (⟨s25.s, w64 (s25.at_ + 1), s25.wrong⟩ : know_templateReader)) else some (.bk s25))
      (fun z => ∃ j k : Nat, z = ⟨s, (j : Int), false⟩ ∧ i ≤ j ∧ j ≤ s.size ∧ j - i + k = 20 ∧ nmE s.data.toList k j = nmE s.data.toList 20 i) (fun z => s.size - z.at_.toNat) (fun o => o = .fin ⟨s, (nmE s.data.toList 20 i : Int), false⟩) (s := ⟨s, (i : Int), false⟩) ⟨i, 20, rfl, Nat.le_refl _, hi, by omega, rfl⟩ (by
        rintro _ ⟨j, k, rfl, j1, j2, j3, j4⟩
        simp only [Bool.not_false, Bool.true_and]
        have hw : w64 ((j : Int) - (i : Int)) = ((j - i : Nat) : Int) := by rw [w64_id (by omega) (by omega)]; omega
        have hw2 : w64 ((j : Int) + 1) = ((j + 1 : Nat) : Int) := by rw [w64_id (by omega) (by omega)]; rfl
        rw [hw, hw2]
        cases k with
        | zero =>
          rw [if_neg (by simp; omega), Option.bind_some, if_neg (by decide)]
          refine ⟨_, rfl, ?_⟩
          rw [← j4]; rfl
        | succ k =>
          rw [nmE] at j4
          by_cases hj : j < s.size
          · have hjl : j < s.data.toList.length := by rw [t_len]; exact hj
            have hc := List.getElem?_eq_getElem hjl
            rw [hc] at j4
            rw [if_pos (by simp; omega), t_idxS, hc, Option.bind_some, Option.bind_some]
            simp only at j4
            by_cases hb : know_nameByte ((s.data.toList[j]).toNat : Int) = true
            · rw [if_pos hb] at j4 ⊢
              exact ⟨_, rfl, ⟨j + 1, k, rfl, by omega, by omega, by omega, j4⟩, by first | omega | (simp only; omega)⟩
            · rw [if_neg hb] at j4 ⊢
              exact ⟨_, rfl, by rw [← j4]⟩
          · have hn : s.data.toList[j]? = none := List.getElem?_eq_none (by rw [t_len]; omega)
            rw [hn] at j4
            rw [if_neg (by simp; omega), Option.bind_some, if_neg (by decide)]
            exact ⟨_, rfl, by rw [← j4]⟩)
    exact ho
/-- a choice read from where a reader stands, right or wrong -/
def chR (ends b : List UInt8) (r : Bool × Nat) : List UInt8 × Bool × Nat := if r.1 = true then rdC ends b r.2 else ([], r)
theorem choice_any (s : ByteArray) (hs : s.size ≤ 20000) (ends : List UInt8) (h92e : ends.contains 92 = false) (r : Bool × Nat) (hr : r.2 ≤ s.size) : know_templateReader_choice ⟨s, (r.2 : Int), !r.1⟩ ⟨ends.toArray⟩ = some (toB (chR ends s.data.toList r).1, ⟨s, ((chR ends s.data.toList r).2.2 : Int), !(chR ends s.data.toList r).2.1⟩) ∧ r.2 ≤ (chR ends s.data.toList r).2.2 ∧ (chR ends s.data.toList r).2.2 ≤ s.size := by
  obtain ⟨w, i⟩ := r
  cases w with
  | true =>
    obtain ⟨h1, h2, h3⟩ := choice_val s hs ends h92e i hr
    exact ⟨h1, by show i ≤ (rdC ends s.data.toList i).2.2; omega, h3⟩
  | false =>
    unfold know_templateReader_choice
    obtain ⟨o, ho, rfl⟩ := whileB_spec (R := ByteArray × know_templateReader) (body := fun s15 : ByteArray × know_templateReader => Option.bind (if ((!s15.2.wrong) && (decide (s15.2.at_ < (s15.2.s.size : Int)))) = true then (Option.bind (idxS s15.2.s s15.2.at_) fun x31 => some (decide ((strings_IndexByte ⟨ends.toArray⟩ (x31.toNat : Int)) < 0))) else (some false)) fun s30 => if s30 = true then Option.bind (Option.bind (idxS s15.2.s s15.2.at_) fun x45 => Option.bind (Option.bind (if ((x45.toNat : Int) == 92) = true then Option.bind (know_templateReader_escaped s15.2 (⟨#[125, 58, 124, 123, 92]⟩ : ByteArray)) fun x66 => Option.bind (strings_Builder_WriteString s15.1 x66.1) fun x71 => some (x71.2.2, x66.2) else Option.bind (if ((x45.toNat : Int) == 123) = true then some ((x45.toNat : Int) == 123) else Option.bind (if ((x45.toNat : Int) == 125) = true then some ((x45.toNat : Int) == 125) else some ((x45.toNat : Int) == 10)) fun s86 => some s86) fun s78 => Option.bind (if s78 = true then some (s15.1, (⟨s15.2.s, s15.2.at_, true⟩ : know_templateReader)) else Option.bind (strings_Builder_WriteByte s15.1 x45) fun x108 => some (x108.2, (⟨s15.2.s, w64 (s15.2.at_ + 1), s15.2.wrong⟩ : know_templateReader))) fun s96 => some (s96.1, s96.2)) fun s58 => some (s58.1, s58.2)) fun s50 => some (s50.1, s50.2)) fun s38 => some (.nx (s38.1, s38.2)) else some (.bk (s15.1, s15.2)))
      (fun z => z = (ByteArray.empty, ⟨s, (i : Int), true⟩)) (fun _ => 0) (fun o => o = .fin (ByteArray.empty, ⟨s, (i : Int), true⟩)) (s := (ByteArray.empty, ⟨s, (i : Int), true⟩)) rfl (by rintro _ rfl; exact ⟨_, rfl, rfl⟩)
    have ho' := ho
    simp only [Bool.not_false] at ho' ⊢
    rw [ho', Option.bind_some, Lp.andThen_fin]
    exact ⟨rfl, Nat.le_refl _, hr⟩
/-- how a field ends -/
def fdF (b : List UInt8) (k : Nat) (f : know_field) : know_field × Bool × Nat := if b[k]? = some 125 then (if b[k + 1]? = some 125 then (f, true, k + 2) else (f, false, k + 1)) else (f, false, k)
theorem fdF_fst (b : List UInt8) (k : Nat) (f : know_field) : (fdF b k f).1 = f := by
  unfold fdF
  split
  · split <;> rfl
  · rfl
/-- a field from its first bracket on -/
def fld (s : ByteArray) (i : Nat) : know_field × Bool × Nat :=
  if s.data.toList[i + 1]? = some 123 then
    if nmE s.data.toList 20 (i + 2) = i + 2 then (⟨ByteArray.empty, 0, ByteArray.empty, ByteArray.empty⟩, false, i + 2)
    else match s.data.toList[nmE s.data.toList 20 (i + 2)]? with
      | none => (⟨ByteArray.empty, 0, ByteArray.empty, ByteArray.empty⟩, false, nmE s.data.toList 20 (i + 2))
      | some c =>
        if c = 124 then
          if (rdC [125] s.data.toList (nmE s.data.toList 20 (i + 2) + 1)).2.1 = true then fdF s.data.toList (rdC [125] s.data.toList (nmE s.data.toList 20 (i + 2) + 1)).2.2 ⟨s.extract (i + 2) (nmE s.data.toList 20 (i + 2)), 124, toB (rdC [125] s.data.toList (nmE s.data.toList 20 (i + 2) + 1)).1, ByteArray.empty⟩
          else (⟨ByteArray.empty, 0, ByteArray.empty, ByteArray.empty⟩, false, (rdC [125] s.data.toList (nmE s.data.toList 20 (i + 2) + 1)).2.2)
        else if c = 63 then
          if (rdC [125, 58] s.data.toList (nmE s.data.toList 20 (i + 2) + 1)).2.1 = true ∧ s.data.toList[(rdC [125, 58] s.data.toList (nmE s.data.toList 20 (i + 2) + 1)).2.2]? = some 58 then
            if (rdC [125] s.data.toList ((rdC [125, 58] s.data.toList (nmE s.data.toList 20 (i + 2) + 1)).2.2 + 1)).2.1 = true then
              fdF s.data.toList (rdC [125] s.data.toList ((rdC [125, 58] s.data.toList (nmE s.data.toList 20 (i + 2) + 1)).2.2 + 1)).2.2 ⟨s.extract (i + 2) (nmE s.data.toList 20 (i + 2)), 63, toB (rdC [125, 58] s.data.toList (nmE s.data.toList 20 (i + 2) + 1)).1, toB (rdC [125] s.data.toList ((rdC [125, 58] s.data.toList (nmE s.data.toList 20 (i + 2) + 1)).2.2 + 1)).1⟩
            else (⟨ByteArray.empty, 0, ByteArray.empty, ByteArray.empty⟩, false, (rdC [125] s.data.toList ((rdC [125, 58] s.data.toList (nmE s.data.toList 20 (i + 2) + 1)).2.2 + 1)).2.2)
          else (⟨ByteArray.empty, 0, ByteArray.empty, ByteArray.empty⟩, false, (rdC [125, 58] s.data.toList (nmE s.data.toList 20 (i + 2) + 1)).2.2)
        else fdF s.data.toList (nmE s.data.toList 20 (i + 2)) ⟨s.extract (i + 2) (nmE s.data.toList 20 (i + 2)), 0, ByteArray.empty, ByteArray.empty⟩
  else (⟨ByteArray.empty, 0, ByteArray.empty, ByteArray.empty⟩, false, i + 1)
theorem mst_yes {b : List UInt8} {c : UInt8} {k : Nat} (h : b[k]? = some c) : mst b c (true, k) = (true, k + 1) := by unfold mst; rw [if_pos rfl, if_pos h]
theorem mst_no {b : List UInt8} {c : UInt8} {k : Nat} (h : ¬ b[k]? = some c) : mst b c (true, k) = (false, k) := by unfold mst; rw [if_pos rfl, if_neg h]
theorem mst_wrong (b : List UInt8) (c : UInt8) (k : Nat) : mst b c (false, k) = (false, k) := rfl
theorem mst_fin (b : List UInt8) (k : Nat) (f : know_field) : mst b 125 (mst b 125 (true, k)) = (fdF b k f).2 := by
  unfold fdF
  by_cases h1 : b[k]? = some 125
  · have e : mst b 125 (true, k) = (true, k + 1) := mst_yes h1
    rw [e, if_pos h1]
    by_cases h2 : b[k + 1]? = some 125
    · rw [if_pos h2, mst_yes h2]
    · rw [if_neg h2, mst_no h2]
  · have e : mst b 125 (true, k) = (false, k) := mst_no h1
    rw [e, if_neg h1, mst_wrong]
/-- where and whether a field ends -/
theorem field_val (s : ByteArray) (hs : s.size ≤ 20000) (i : Nat) (h0 : s.data.toList[i]? = some 123) : ∃ f, know_templateReader_field ⟨s, (i : Int), false⟩ = some (f, ⟨s, ((fld s i).2.2 : Int), !(fld s i).2.1⟩) ∧ i < (fld s i).2.2 ∧ (fld s i).2.2 ≤ s.size ∧ ((fld s i).2.1 = true → f = (fld s i).1 ∧ 1 ≤ f.name.size ∧ (f.kind = 0 ∨ f.kind = 124 ∨ f.kind = 63)) := by
  have hi : i < s.size := by have := (List.getElem?_eq_some_iff.1 h0).1; rw [t_len] at this; exact this
  have e1 : mst s.data.toList 123 (true, i) = (true, i + 1) := mst_yes h0
  unfold know_templateReader_field
  obtain ⟨m1, _, _⟩ := must_val s hs 123 (true, i) (by first | omega | (simp only; omega))
  rw [e1] at m1
  have m1' : know_templateReader_must ⟨s, (i : Int), false⟩ 123 = some ⟨s, ((i + 1 : Nat) : Int), false⟩ := m1
  rw [m1', Option.bind_some]
  by_cases h1 : s.data.toList[i + 1]? = some 123
  rotate_left
  · have e2 : mst s.data.toList 123 (true, i + 1) = (false, i + 1) := mst_no h1
    obtain ⟨m2, _, _⟩ := must_val s hs 123 (true, i + 1) (by first | omega | (simp only; omega))
    rw [e2] at m2
    have m2' : know_templateReader_must ⟨s, ((i + 1 : Nat) : Int), false⟩ 123 = some ⟨s, ((i + 1 : Nat) : Int), true⟩ := m2
    rw [m2', Option.bind_some]
    have hn := name_val s hs (i + 1) (by omega) true (know_field × know_templateReader)
    simp only at hn ⊢
    rw [hn, Option.bind_some, Lp.andThen_fin]
    simp only [if_true]
    rw [t_slice s (i + 1) (i + 1) (by omega) (by omega), Option.bind_some]
    have : fld s i = (⟨ByteArray.empty, 0, ByteArray.empty, ByteArray.empty⟩, false, i + 1) := by unfold fld; rw [if_neg h1]
    rw [this]
    by_cases hq : strEq (s.extract (i + 1) (i + 1)) (⟨#[]⟩ : ByteArray) = true
    · rw [if_pos hq, Option.bind_some]
      simp only [Bool.true_or, if_true]
      exact ⟨_, rfl, by first | omega | (simp only; omega), by first | omega | (simp only; omega), fun h => by cases h⟩
    · rw [if_neg hq, Option.bind_some]
      simp only [Bool.true_or, if_true]
      exact ⟨_, rfl, by first | omega | (simp only; omega), by first | omega | (simp only; omega), fun h => by cases h⟩
  have h1l : i + 1 < s.size := by have := (List.getElem?_eq_some_iff.1 h1).1; rw [t_len] at this; exact this
  have e2 : mst s.data.toList 123 (true, i + 1) = (true, i + 2) := mst_yes h1
  obtain ⟨m2, _, _⟩ := must_val s hs 123 (true, i + 1) (by first | omega | (simp only; omega))
  rw [e2] at m2
  have m2' : know_templateReader_must ⟨s, ((i + 1 : Nat) : Int), false⟩ 123 = some ⟨s, ((i + 2 : Nat) : Int), false⟩ := m2
  rw [m2', Option.bind_some]
  have hn := name_val s hs (i + 2) (by omega) false (know_field × know_templateReader)
  simp only [Bool.false_eq_true, if_false] at hn
  obtain ⟨b1, b2⟩ := nmE_bound s.data.toList 20 (i + 2) (by rw [t_len]; omega)
  rw [t_len] at b2
  have hfl : fld s i = fld s i := rfl
  conv at hfl => rhs; unfold fld
  rw [if_pos h1] at hfl
  generalize hk : nmE s.data.toList 20 (i + 2) = k at hn b1 b2 hfl
  simp only at hn ⊢
  rw [hn, Option.bind_some, Lp.andThen_fin]
  simp only
  rw [t_slice s (i + 2) k b1 b2, Option.bind_some]
  have hsz := t_size s (i + 2) k b1 b2
  by_cases hk0 : k = i + 2
  · have hq : strEq (s.extract (i + 2) k) (⟨#[]⟩ : ByteArray) = true := by
      unfold strEq
      have : s.extract (i + 2) k = ⟨#[]⟩ := by
        have h0 : (s.extract (i + 2) k).size = 0 := by rw [hsz]; omega
        apply ByteArray.ext
        exact Array.eq_empty_of_size_eq_zero h0
      rw [this]; exact beq_self_eq_true _
    rw [if_pos hq, Option.bind_some]
    simp only [Bool.true_or, if_true]
    rw [if_pos hk0] at hfl
    rw [hfl]
    exact ⟨_, by rw [hk0]; rfl, by first | omega | (simp only; omega), by first | omega | (simp only; omega), fun h => by cases h⟩
  have hq : strEq (s.extract (i + 2) k) (⟨#[]⟩ : ByteArray) = false := by
    unfold strEq
    rw [beq_eq_false_iff_ne]
    intro h
    have : (s.extract (i + 2) k).toList.length = 0 := by rw [h, ByteArray.toList_eq]; rfl
    rw [ByteArray.toList_eq, t_len, hsz] at this
    omega
  rw [if_neg (by rw [hq]; decide), Option.bind_some]
  rw [if_neg hk0] at hfl
  by_cases hke : k = s.size
  · have hn0 : s.data.toList[k]? = none := List.getElem?_eq_none (by rw [t_len]; omega)
    rw [hn0] at hfl
    simp only at hfl
    rw [if_pos (by rw [hke]; simp), hfl]
    exact ⟨_, rfl, by first | omega | (simp only; omega), by first | omega | (simp only; omega), fun h => by cases h⟩
  have hkl : k < s.data.toList.length := by rw [t_len]; omega
  have hc := List.getElem?_eq_getElem hkl
  generalize s.data.toList[k] = c at hc
  rw [hc] at hfl
  simp only at hfl
  rw [if_neg (by simp; omega)]
  simp only
  rw [t_idxS, hc, Option.bind_some]
  have hw : w64 ((k : Int) + 1) = ((k + 1 : Nat) : Int) := by rw [w64_id (by omega) (by omega)]; rfl
  rw [show ((c.toNat : Int) == 124) = (c == 124) from u8_eq c 124 (by omega), show ((c.toNat : Int) == 63) = (c == 63) from u8_eq c 63 (by omega), hw]
  by_cases h124 : c = 124
  · rw [if_pos h124] at hfl
    rw [if_pos (by simpa using h124)]
    obtain ⟨c1, c2, c3⟩ := choice_any s hs [125] (by decide) (true, k + 1) (by first | omega | (simp only; omega))
    have c1' : know_templateReader_choice ⟨s, ((k + 1 : Nat) : Int), false⟩ (⟨#[125]⟩ : ByteArray) = _ := c1
    have ec : chR [125] s.data.toList (true, k + 1) = rdC [125] s.data.toList (k + 1) := rfl
    rw [ec] at c1' c2 c3
    rw [c1']
    simp only [Option.bind_some]
    generalize rdC [125] s.data.toList (k + 1) = q at c2 c3 hfl
    obtain ⟨qt, qw, qk⟩ := q
    obtain ⟨m3, m3a, m3b⟩ := must_val s hs 125 (qw, qk) c3
    obtain ⟨m4, m4a, m4b⟩ := must_val s hs 125 (mst s.data.toList 125 (qw, qk)) m3b
    simp only at m3 m3a c2 c3 ⊢
    have m3' : know_templateReader_must ⟨s, (qk : Int), !qw⟩ 125 = _ := m3
    have m4' : know_templateReader_must ⟨s, ((mst s.data.toList 125 (qw, qk)).2 : Int), !(mst s.data.toList 125 (qw, qk)).1⟩ 125 = _ := m4
    rw [m3', Option.bind_some, m4', Option.bind_some]
    cases qw with
    | false =>
      simp only [Bool.false_eq_true, if_false] at hfl
      rw [hfl]
      simp only [mst_wrong] at *
      exact ⟨_, rfl, by omega, by omega, fun h => by cases h⟩
    | true =>
      simp only [if_true] at hfl
      rw [mst_fin s.data.toList qk ⟨s.extract (i + 2) k, 124, toB qt, ByteArray.empty⟩, ← hfl] at m4a m4b ⊢
      refine ⟨_, rfl, by omega, by omega, fun h => ⟨?_, by show 1 ≤ (s.extract (i + 2) k).size; omega, Or.inr (Or.inl rfl)⟩⟩
      rw [hfl, fdF_fst]
  · rw [if_neg h124] at hfl
    rw [if_neg (by simpa using h124)]
    by_cases h63 : c = 63
    · rw [if_pos h63] at hfl
      rw [if_pos (by simpa using h63)]
      obtain ⟨c1, c2, c3⟩ := choice_any s hs [125, 58] (by decide) (true, k + 1) (by first | omega | (simp only; omega))
      have c1' : know_templateReader_choice ⟨s, ((k + 1 : Nat) : Int), false⟩ (⟨#[125, 58]⟩ : ByteArray) = _ := c1
      have ec : chR [125, 58] s.data.toList (true, k + 1) = rdC [125, 58] s.data.toList (k + 1) := rfl
      rw [ec] at c1' c2 c3
      rw [c1', Option.bind_some]
      generalize rdC [125, 58] s.data.toList (k + 1) = q at c2 c3 hfl
      obtain ⟨qt, qw, qk⟩ := q
      obtain ⟨m5, m5a, m5b⟩ := must_val s hs 58 (qw, qk) c3
      simp only at m5 m5a c2 c3 hfl ⊢
      have m5' : know_templateReader_must ⟨s, (qk : Int), !qw⟩ 58 = _ := m5
      rw [m5', Option.bind_some]
      obtain ⟨d1, d2, d3⟩ := choice_any s hs [125] (by decide) (mst s.data.toList 58 (qw, qk)) m5b
      have d1' : know_templateReader_choice ⟨s, ((mst s.data.toList 58 (qw, qk)).2 : Int), !(mst s.data.toList 58 (qw, qk)).1⟩ (⟨#[125]⟩ : ByteArray) = _ := d1
      rw [d1']
      simp only [Option.bind_some]
      have key : (chR [125] s.data.toList (mst s.data.toList 58 (qw, qk))).2.1 = true → qw = true ∧ s.data.toList[qk]? = some 58 ∧ chR [125] s.data.toList (mst s.data.toList 58 (qw, qk)) = rdC [125] s.data.toList (qk + 1) := by
        intro h
        cases qw with
        | false => cases h
        | true =>
          by_cases h58 : s.data.toList[qk]? = some 58
          · have : mst s.data.toList 58 (true, qk) = (true, qk + 1) := mst_yes h58
            rw [this] at h ⊢
            exact ⟨rfl, h58, rfl⟩
          · have : mst s.data.toList 58 (true, qk) = (false, qk) := mst_no h58
            rw [this] at h
            cases h
      have key2 : (chR [125] s.data.toList (mst s.data.toList 58 (qw, qk))).2.1 = false → fld s i = (⟨ByteArray.empty, 0, ByteArray.empty, ByteArray.empty⟩, (chR [125] s.data.toList (mst s.data.toList 58 (qw, qk))).2) := by
        intro h
        rw [hfl]
        cases qw with
        | false => rfl
        | true =>
          by_cases h58 : s.data.toList[qk]? = some 58
          · have : mst s.data.toList 58 (true, qk) = (true, qk + 1) := mst_yes h58
            rw [this] at h ⊢
            have h' : (rdC [125] s.data.toList (qk + 1)).2.1 = false := h
            rw [if_pos ⟨rfl, h58⟩, if_neg (by rw [h']; decide)]
            show _ = (_, (rdC [125] s.data.toList (qk + 1)).2)
            rw [← h']
          · have : mst s.data.toList 58 (true, qk) = (false, qk) := mst_no h58
            rw [this, if_neg (fun q => h58 q.2)]
            rfl
      generalize chR [125] s.data.toList (mst s.data.toList 58 (qw, qk)) = q2 at d2 d3 key key2
      obtain ⟨q2t, q2w, q2k⟩ := q2
      obtain ⟨m3, m3a, m3b⟩ := must_val s hs 125 (q2w, q2k) d3
      obtain ⟨m4, m4a, m4b⟩ := must_val s hs 125 (mst s.data.toList 125 (q2w, q2k)) m3b
      simp only at m3 m3a d2 d3 key key2 ⊢
      have m3' : know_templateReader_must ⟨s, (q2k : Int), !q2w⟩ 125 = _ := m3
      have m4' : know_templateReader_must ⟨s, ((mst s.data.toList 125 (q2w, q2k)).2 : Int), !(mst s.data.toList 125 (q2w, q2k)).1⟩ 125 = _ := m4
      rw [m3', Option.bind_some, m4', Option.bind_some]
      cases q2w with
      | false =>
        rw [key2 rfl]
        simp only [mst_wrong] at *
        exact ⟨_, rfl, by omega, by omega, fun h => by cases h⟩
      | true =>
        obtain ⟨k1, k2, k3⟩ := key rfl
        rw [if_pos ⟨k1, k2⟩, ← k3, if_pos rfl] at hfl
        rw [mst_fin s.data.toList q2k ⟨s.extract (i + 2) k, 63, toB qt, toB q2t⟩, ← hfl] at m4a m4b ⊢
        refine ⟨_, rfl, by omega, by omega, fun h => ⟨?_, by show 1 ≤ (s.extract (i + 2) k).size; omega, Or.inr (Or.inr rfl)⟩⟩
        rw [hfl, fdF_fst]
    · rw [if_neg h63] at hfl
      rw [if_neg (by simpa using h63)]
      simp only [Option.bind_some]
      obtain ⟨m3, m3a, m3b⟩ := must_val s hs 125 (true, k) (by first | omega | (simp only; omega))
      obtain ⟨m4, m4a, m4b⟩ := must_val s hs 125 (mst s.data.toList 125 (true, k)) m3b
      simp only at m3 m3a ⊢
      have m3' : know_templateReader_must ⟨s, (k : Int), false⟩ 125 = _ := m3
      have m4' : know_templateReader_must ⟨s, ((mst s.data.toList 125 (true, k)).2 : Int), !(mst s.data.toList 125 (true, k)).1⟩ 125 = _ := m4
      rw [m3', Option.bind_some, m4', Option.bind_some]
      rw [mst_fin s.data.toList k ⟨s.extract (i + 2) k, 0, ByteArray.empty, ByteArray.empty⟩, ← hfl] at m4a m4b ⊢
      refine ⟨_, rfl, by omega, by omega, fun h => ⟨?_, by show 1 ≤ (s.extract (i + 2) k).size; omega, Or.inl rfl⟩⟩
      rw [hfl, fdF_fst]
end Go.Proofs.YtfdhiclmjfkflaaDoor.M
