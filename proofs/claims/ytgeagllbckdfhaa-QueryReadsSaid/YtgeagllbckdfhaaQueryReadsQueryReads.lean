/-
  Reading a query: plain part.
-/
import Derived.Test.YtgeagllbckdfhaaQueryReadsWrdQuery
namespace Go.Proofs.Ytgeagllbckdfhaa.M
open Go Go.Pu
set_option linter.unusedSimpArgs false
set_option linter.unusedVariables false

def parseF : Nat → List UInt8 → List know_Part → Nat → Nat ⊕ List know_Part
  | 0, _, acc, _ => .inr acc
  | f + 1, l, acc, i => if l.length ≤ i then .inr acc else if l[i]? = some 32 then parseF f l acc (i + 1) else match partAt l i with
    | .inl a => .inl a
    | .inr (p, nx) => if nx < l.length ∧ l[nx]? ≠ some 32 then .inl nx else parseF f l (acc ++ [p]) nx
theorem parseF_fuel : ∀ (f g : Nat) (l : List UInt8) (acc : List know_Part) (i : Nat), l.length - i ≤ f → l.length - i ≤ g → parseF f l acc i = parseF g l acc i
  | 0, 0, _, _, _, _, _ => rfl
  | 0, g + 1, l, acc, i, h, _ => by rw [parseF, parseF, if_pos (by omega)]
  | f + 1, 0, l, acc, i, _, h => by rw [parseF, parseF, if_pos (by omega)]
  | f + 1, g + 1, l, acc, i, h1, h2 => by
    rw [parseF, parseF]
    by_cases hi : l.length ≤ i
    · rw [if_pos hi, if_pos hi]
    rw [if_neg hi, if_neg hi]
    by_cases hb : l[i]? = some 32
    · rw [if_pos hb, if_pos hb]
      exact parseF_fuel f g l acc (i + 1) (by omega) (by omega)
    rw [if_neg hb, if_neg hb]
    have hp := (partAt_lt (l := l) (i := i) (by omega)).2
    rcases hpa : partAt l i with a | ⟨p, nx⟩
    · rfl
    have := hp p nx hpa
    simp only
    split
    · rfl
    · exact parseF_fuel f g l _ nx (by omega) (by omega)
def parse (l : List UInt8) (acc : List know_Part) (i : Nat) : Nat ⊕ List know_Part := parseF (l.length - i) l acc i
theorem parse_end {l : List UInt8} {acc : List know_Part} {i : Nat} (h : l.length ≤ i) : parse l acc i = .inr acc := by
  unfold parse
  rw [show l.length - i = 0 by omega, parseF]
theorem parse_at {l : List UInt8} {acc : List know_Part} {i : Nat} (h : i < l.length) : parse l acc i = if l[i]? = some 32 then parse l acc (i + 1) else match partAt l i with
    | .inl a => .inl a
    | .inr (p, nx) => if nx < l.length ∧ l[nx]? ≠ some 32 then .inl nx else parse l (acc ++ [p]) nx := by
  unfold parse
  obtain ⟨n, hn⟩ : ∃ n, l.length - i = n + 1 := ⟨l.length - i - 1, by omega⟩
  rw [hn, parseF, if_neg (by omega)]
  by_cases hb : l[i]? = some 32
  · rw [if_pos hb, if_pos hb]
    exact parseF_fuel _ _ _ _ _ (by omega) (by omega)
  rw [if_neg hb, if_neg hb]
  have hp := (partAt_lt (l := l) (i := i) (by omega)).2
  rcases hpa : partAt l i with a | ⟨p, nx⟩
  · rfl
  have := hp p nx hpa
  simp only
  split
  · rfl
  · exact parseF_fuel _ _ _ _ _ (by omega) (by omega)
theorem span_cases (l : List UInt8) (i : Nat) : spanE bl l i = i ∧ l[i]? ≠ some 32 ∨ l[i]? = some 32 ∧ spanE bl l i = spanE bl l (i + 1) := by
  by_cases hb : l[i]? = some 32
  · exact .inr ⟨hb, spanE_step hb (by decide)⟩
  · refine .inl ⟨spanE_stop fun b h => ?_, hb⟩
    by_cases e : b = 32
    · subst e; exact absurd h hb
    · simp [bl, e]
theorem parse_skip (l : List UInt8) (acc : List know_Part) : ∀ (n i : Nat), l.length - i ≤ n → parse l acc (spanE bl l i) = parse l acc i ∧ l[spanE bl l i]? ≠ some 32
  | 0, i, h => by
    rcases span_cases l i with ⟨h1, h2⟩ | ⟨h1, h2⟩
    · rw [h1]; exact ⟨rfl, h2⟩
    · rw [List.getElem?_eq_none (by omega)] at h1; cases h1
  | n + 1, i, h => by
    rcases span_cases l i with ⟨h1, h2⟩ | ⟨h1, h2⟩
    · rw [h1]; exact ⟨rfl, h2⟩
    · have hi := (List.getElem?_eq_some_iff.1 h1).1
      obtain ⟨h3, h4⟩ := parse_skip l acc n (i + 1) (by omega)
      rw [h2, parse_at hi, if_pos h1]
      exact ⟨h3, h4⟩
def read (l : List UInt8) : know_Query × Int × Int := match parse l [] 0 with
  | .inl a => (⟨[]⟩, (a : Int), 8)
  | .inr acc => if 20 < acc.length then (⟨[]⟩, 0, 4) else (⟨acc⟩, 0, 0)
theorem append_part {acc : List know_Part} {p : know_Part} (h : acc.length ≤ 1000) : appendL 3518437208883 acc ([p] : List know_Part) = some (acc ++ [p]) := by
  unfold appendL
  rw [if_pos (by simp; omega)]
theorem readQuery_val (s : ByteArray) (hs : s.size ≤ 400) : know_ReadQuery s = some (read s.data.toList) := by
  unfold know_ReadQuery
  rw [if_neg (by simp; omega), show (⟨s, 0⟩ : know_queryReader) = ⟨s, ((0 : Nat) : Int)⟩ from rfl, blanks_val s (by omega) 0 (by omega), Option.bind_some]
  generalize hbody : (fun s39 : know_queryReader × know_Query × know_Query => _) = body
  have hl := data_size s
  suffices hx : ∃ r, whileB body ((⟨s, ((spanE bl s.data.toList 0 : Nat) : Int)⟩ : know_queryReader), (⟨[]⟩ : know_Query), (⟨[]⟩ : know_Query)) = some r ∧ (match parse s.data.toList [] 0 with
      | .inl a => r = .rt ((⟨[]⟩ : know_Query), (a : Int), (8 : Int))
      | .inr acc => ∃ t z, r = .fin (t, (⟨acc⟩ : know_Query), z)) by
    obtain ⟨r, h, hr⟩ := hx
    rw [h, Option.bind_some]
    unfold read
    rcases hp : parse s.data.toList [] 0 with a | acc <;> rw [hp] at hr
    · rw [hr]; rfl
    · obtain ⟨t, z, rfl⟩ := hr
      simp only [Lp.andThen_fin]
      by_cases h20 : 20 < acc.length
      · rw [if_pos (by simp; omega), if_pos h20]
      · rw [if_neg (by simp; omega), if_neg h20]
  refine whileB_spec (body := body) (fun t => ∃ (i : Nat) (acc : List know_Part), t = (⟨s, (i : Int)⟩, ⟨acc⟩, ⟨[]⟩) ∧ i ≤ s.size ∧ acc.length ≤ i ∧ s.data.toList[i]? ≠ some 32 ∧ parse s.data.toList acc i = parse s.data.toList [] 0) (fun t => s.size - t.1.at_.toNat) _ ?_ ?_
  · have h1 := parse_skip s.data.toList [] s.data.toList.length 0 (by omega)
    have h2 := spanE_le bl s.data.toList 0 (by omega)
    exact ⟨_, [], rfl, by omega, by simp, h1.2, h1.1⟩
  rintro _ ⟨i, acc, rfl, h1, h2, h3, h4⟩
  subst hbody
  simp only
  by_cases hi : i < s.size
  · rw [if_pos (by simp; omega)]
    have hpv := part_val s (by omega) i hi
    have hlt := partAt_lt (l := s.data.toList) (i := i) (by omega)
    rw [parse_at (by omega), if_neg h3] at h4
    rcases hpa : partAt s.data.toList i with a | ⟨p, nx⟩ <;> rw [hpa] at hpv h4 <;> simp only at hpv h4
    · obtain ⟨p, hp⟩ := hpv
      rw [hp, Option.bind_some]
      refine ⟨_, rfl, ?_⟩
      rw [← h4]
    · have hnx := hlt.2 p nx hpa
      rw [hpv, Option.bind_some]
      simp only [Bool.not_true, Bool.false_eq_true, if_false]
      rw [append_part (by omega), Option.bind_some]
      by_cases he : nx = s.size
      · rw [if_pos (show ((nx : Int) == (s.size : Int)) = true by simp; omega)]
        refine ⟨_, rfl, ?_⟩
        rw [if_neg (by omega), parse_end (by omega)] at h4
        rw [← h4]
        exact ⟨_, _, rfl⟩
      · rw [if_neg (show ¬ (((nx : Int) == (s.size : Int)) = true) by simp; omega), is_val s (by omega) nx (by omega) 32 32 rfl, Option.bind_some]
        by_cases hb : s.data.toList[nx]? = some 32
        · rw [if_pos hb]
          simp only [Bool.not_true, Bool.false_eq_true, if_false]
          rw [blanks_val s (by omega) (nx + 1) (by omega), Option.bind_some]
          have h5 := parse_skip s.data.toList (acc ++ [p]) s.data.toList.length (nx + 1) (by omega)
          have h6 := spanE_le bl s.data.toList (nx + 1) (by omega)
          have h7 := spanE_ge bl s.data.toList (nx + 1)
          refine ⟨_, rfl, ⟨_, acc ++ [p], rfl, by omega, by simp; omega, h5.2, ?_⟩, ?_⟩
          · rw [if_neg (fun h => h.2 hb), parse_at (by omega), if_pos hb] at h4
            rw [h5.1, h4]
          · simp only; omega
        · rw [if_neg hb]
          refine ⟨_, rfl, ?_⟩
          rw [if_pos ⟨by omega, hb⟩] at h4
          rw [← h4]
  · rw [if_neg (by simp; omega)]
    refine ⟨_, rfl, ?_⟩
    rw [← h4, parse_end (by omega)]
    exact ⟨_, _, rfl⟩
/-- the reference's loop over the letters of a part -/
theorem word_loop2 {Z : Type} (s : ByteArray) (hs : s.size ≤ 1000) (st : Nat) (hst : st ≤ s.size) (z : know_Query) (f : Int → Option (know_Query × Int × Int)) (hf : ∀ a, f a = some (⟨[]⟩, a, 8)) :
    whileB (R := know_Query × Int × Int) (fun s197 : Int × know_Query => Option.bind (if (decide (s197.1 < (s.size : Int))) = true then (Option.bind (idxS s s197.1) fun x212 => some (portref2_isWordByte (x212.toNat : Int))) else (some false)) fun s211 => if s211 = true then if ((w64 (s197.1 - (st : Int))) == 30) = true then Option.bind (f s197.1) fun x215 => some (.rt (x215.1, x215.2.1, x215.2.2)) else some (.nx (w64 (s197.1 + 1), s197.2)) else some (.bk (s197.1, s197.2))) ((st : Int), z) = some (if runE s.data.toList st ≤ st + 30 then .fin (((runE s.data.toList st : Nat) : Int), z) else .rt (⟨[]⟩, ((st + 30 : Nat) : Int), 8)) := by
  generalize hbody : (fun s99 : Int × know_Query => _) = body
  have hl := data_size s
  suffices hx : ∃ r, whileB (R := know_Query × Int × Int) body ((st : Int), z) = some r ∧ r = if runE s.data.toList st ≤ st + 30 then .fin (((runE s.data.toList st : Nat) : Int), z) else .rt (⟨[]⟩, ((st + 30 : Nat) : Int), 8) by
    obtain ⟨r, h, rfl⟩ := hx
    exact h
  refine whileB_spec (body := body) (fun t => ∃ j : Nat, t = ((j : Int), z) ∧ st ≤ j ∧ j ≤ s.size ∧ j ≤ st + 30 ∧ runE s.data.toList j = runE s.data.toList st) (fun t => s.size - t.1.toNat) _ ⟨st, rfl, by omega, hst, by omega, rfl⟩ ?_
  rintro _ ⟨j, rfl, h0, h1, h2, h3⟩
  subst hbody
  simp only
  have hg := runE_ge s.data.toList j
  by_cases hj : j < s.size
  · have hb := List.getElem?_eq_getElem (l := s.data.toList) (i := j) (by rw [data_size]; exact hj)
    rw [if_pos (by simp; omega), idxS_list, hb]
    simp only [Option.bind_some]
    cases hw : portref2_isWordByte (((s.data.toList[j]'(by rw [data_size]; exact hj)).toNat : Nat) : Int) with
    | true =>
      have hs1 := runE_step hb hw
      have hg1 := runE_ge s.data.toList (j + 1)
      rw [if_pos rfl, w64_id (n := (j : Int) - (st : Int)) (by omega) (by omega)]
      by_cases h30 : j = st + 30
      · rw [if_pos (show (((j : Int) - (st : Int)) == 30) = true by simp; omega), hf]
        refine ⟨_, rfl, ?_⟩
        rw [if_neg (by omega), h30]
      · rw [if_neg (show ¬ ((((j : Int) - (st : Int)) == 30) = true) by simp; omega)]
        refine ⟨_, rfl, ⟨j + 1, ?_, by omega, by omega, by omega, ?_⟩, ?_⟩
        · rw [w64_id (by omega) (by omega)]; rfl
        · rw [← hs1, h3]
        · simp only; rw [w64_id (by omega) (by omega)]; omega
    | false =>
      rw [if_neg (by decide)]
      refine ⟨_, rfl, ?_⟩
      have := runE_stop (l := s.data.toList) (i := j) fun b h => by rw [hb] at h; cases h; exact hw
      rw [if_pos (by omega), ← h3, this]
  · rw [if_neg (show ¬ (decide ((j : Int) < (s.size : Int)) = true) by simp; omega)]
    refine ⟨_, rfl, ?_⟩
    have := runE_stop (l := s.data.toList) (i := j) fun b h => by rw [List.getElem?_eq_none (by omega)] at h; cases h
    show Lp.fin ((j : Int), z) = _
    rw [if_pos (by omega), ← h3, this]
theorem readQueryOf_val (s : ByteArray) (hs : s.size ≤ 400) : portref2_ReadQueryOf s = some (read s.data.toList) := by
  unfold portref2_ReadQueryOf
  rw [if_neg (by simp; omega)]
  generalize hbody : (fun s28 : Int × know_Query × know_Query => _) = body
  have hl := data_size s
  suffices hx : ∃ r, whileB body ((0 : Int), (⟨[]⟩ : know_Query), (⟨[]⟩ : know_Query)) = some r ∧ (match parse s.data.toList [] 0 with
      | .inl a => r = .rt ((⟨[]⟩ : know_Query), (a : Int), (8 : Int))
      | .inr acc => ∃ t z, r = .fin (t, (⟨acc⟩ : know_Query), z)) by
    obtain ⟨r, h, hr⟩ := hx
    rw [h, Option.bind_some]
    unfold read
    rcases hp : parse s.data.toList [] 0 with a | acc <;> rw [hp] at hr
    · rw [hr]; rfl
    · obtain ⟨t, z, rfl⟩ := hr
      simp only [Lp.andThen_fin]
      by_cases h20 : 20 < acc.length
      · rw [if_pos (by simp; omega), if_pos h20]
      · rw [if_neg (by simp; omega), if_neg h20]
  refine whileB_spec (body := body) (fun t => ∃ (i : Nat) (acc : List know_Part), t = ((i : Int), ⟨acc⟩, ⟨[]⟩) ∧ i ≤ s.size ∧ acc.length ≤ i ∧ parse s.data.toList acc i = parse s.data.toList [] 0) (fun t => s.size - t.1.toNat) _ ⟨0, [], rfl, by omega, by simp, rfl⟩ ?_
  rintro _ ⟨i, acc, rfl, h1, h2, h4⟩
  by_cases hi : i < s.size
  · have hb := List.getElem?_eq_getElem (l := s.data.toList) (i := i) (by omega)
    by_cases h32 : s.data.toList[i]? = some 32
    · subst hbody
      simp only
      rw [if_pos (by simp; omega), idxS_list, h32]
      simp only [Option.bind_some]
      rw [if_pos (by decide)]
      refine ⟨_, rfl, ⟨i + 1, acc, ?_, by omega, by omega, ?_⟩, ?_⟩
      · simp only; rw [w64_id (by omega) (by omega)]; rfl
      · rw [← h4, parse_at (acc := acc) (by omega : i < s.data.toList.length), if_pos h32]
      · simp only; rw [w64_id (by omega) (by omega)]; omega
    suffices hround : body ((i : Int), ⟨acc⟩, ⟨[]⟩) = some (match partAt s.data.toList i with
        | .inl a => .rt (⟨[]⟩, (a : Int), 8)
        | .inr (p, nx) => if nx < s.data.toList.length ∧ s.data.toList[nx]? ≠ some 32 then .rt (⟨[]⟩, (nx : Int), 8) else .nx ((nx : Int), ⟨acc ++ [p]⟩, ⟨[]⟩)) by
      rw [hround]
      have hlt := partAt_lt (l := s.data.toList) (i := i) (by omega)
      rw [parse_at (by omega), if_neg h32] at h4
      rcases hpa : partAt s.data.toList i with a | ⟨p, nx⟩ <;> rw [hpa] at h4 <;> simp only at h4 ⊢
      · refine ⟨_, rfl, ?_⟩
        rw [← h4]
      · have hnx := hlt.2 p nx hpa
        by_cases hc : nx < s.data.toList.length ∧ s.data.toList[nx]? ≠ some 32
        · rw [if_pos hc] at h4 ⊢
          refine ⟨_, rfl, ?_⟩
          rw [← h4]
        · rw [if_neg hc] at h4 ⊢
          refine ⟨_, rfl, ⟨nx, acc ++ [p], rfl, by omega, by simp; omega, h4⟩, by simp only; omega⟩
    subst hbody
    simp only
    rw [if_pos (by simp; omega), idxS_list, hb]
    simp only [Option.bind_some]
    have hne : ∀ (c : UInt8) (k : Int), k = (c.toNat : Int) → ((((s.data.toList[i]'(by omega)).toNat : Int) == k) = true ↔ s.data.toList[i]? = some c) := by
      rintro c _ rfl
      rw [hb, beq_iff_eq, Option.some_inj, ← UInt8.toNat_inj]
      omega
    rw [if_neg (fun h => h32 ((hne 32 32 rfl).1 h))]
    have e69 : (if ((((s.data.toList[i]'(by omega)).toNat : Int) == 45) = true) then some (w64 ((i : Int) + 1), (⟨0, true, ([] : (List ByteArray))⟩ : know_Part)) else some ((i : Int), (⟨0, false, ([] : (List ByteArray))⟩ : know_Part))) = some (((if s.data.toList[i]? = some 45 then i + 1 else i : Nat) : Int), ⟨0, decide (s.data.toList[i]? = some 45), []⟩) := by
      by_cases h45 : s.data.toList[i]? = some 45
      · rw [if_pos ((hne 45 45 rfl).2 h45), if_pos h45, w64_id (by omega) (by omega)]
        simp [h45]
      · rw [if_neg (fun h => h45 ((hne 45 45 rfl).1 h)), if_neg h45, decide_eq_false h45]
    rw [e69]
    unfold partAt
    simp only [Option.bind_some]
    have hst : (if s.data.toList[i]? = some 45 then i + 1 else i) ≤ s.size := by split <;> omega
    have hsti : i ≤ (if s.data.toList[i]? = some 45 then i + 1 else i) := by split <;> omega
    generalize (if s.data.toList[i]? = some 45 then i + 1 else i) = st at hst hsti
    generalize decide (s.data.toList[i]? = some 45) = nt
    have e97 : (if (decide ((st : Int) < (s.size : Int))) = true then (Option.bind (idxS s (st : Int)) fun x98 => some ((x98.toNat : Int) == 34)) else (some false)) = some (decide (s.data.toList[st]? = some 34)) := by
      by_cases h : st < s.size
      · have hb := List.getElem?_eq_getElem (l := s.data.toList) (i := st) (by omega)
        rw [if_pos (by simp; omega), idxS_list, hb, Option.bind_some]
        congr 1
        rw [Bool.eq_iff_iff, beq_iff_eq, decide_eq_true_eq, Option.some_inj, ← UInt8.toNat_inj]
        show _ ↔ _ = 34
        omega
      · rw [if_neg (by simp; omega), List.getElem?_eq_none (by omega)]
        rfl
    rw [e97, Option.bind_some]
    have hr := runE_size s st hst
    have hg := runE_ge s.data.toList st
    -- behind a part
    have htail : ∀ (p : know_Part) (nx : Nat), nx ≤ s.size → (Option.bind (if (decide ((nx : Int) < (s.size : Int))) = true then (Option.bind (idxS s (nx : Int)) fun x282 => some ((x282.toNat : Int) != 32)) else (some false)) fun s281 => if s281 = true then Option.bind (portref2_ReadQueryOf_1 (nx : Int)) fun x284 => some (Lp.rt (S := Int × know_Query × know_Query) (x284.1, x284.2.1, x284.2.2)) else Option.bind (appendL 3518437208883 acc ([p] : List know_Part)) fun x301 => some (.fin ((nx : Int), (⟨x301⟩ : know_Query), (⟨[]⟩ : know_Query)))) = some (if nx < s.data.toList.length ∧ s.data.toList[nx]? ≠ some 32 then .rt (⟨[]⟩, (nx : Int), 8) else .fin ((nx : Int), ⟨acc ++ [p]⟩, ⟨[]⟩)) := by
      intro p nx hnx
      by_cases h : nx < s.size
      · have hb := List.getElem?_eq_getElem (l := s.data.toList) (i := nx) (by omega)
        rw [if_pos (by simp; omega), idxS_list, hb, Option.bind_some, Option.bind_some]
        by_cases hc : s.data.toList[nx]'(by omega) = 32
        · rw [hc, if_neg (by decide), append_part (by omega), if_neg (by simp)]
          rfl
        · rw [if_pos, if_pos ⟨by omega, fun e => hc (Option.some.inj e)⟩]
          · rfl
          · rw [bne_iff_ne]
            intro e
            exact hc (UInt8.toNat_inj.1 (by show _ = 32; omega))
      · rw [if_neg (show ¬ (decide ((nx : Int) < (s.size : Int)) = true) by simp; omega), Option.bind_some, append_part (by omega), if_neg (show ¬ (nx < s.data.toList.length ∧ s.data.toList[nx]? ≠ some 32) by omega)]
        rfl
    by_cases hq : s.data.toList[st]? = some 34
    · rw [if_pos hq]
      simp only [hq, decide_true, if_true]
      have hq1 := (List.getElem?_eq_some_iff.1 hq).1
      rw [w64_id (n := (st : Int) + 1) (by omega) (by omega), show (st : Int) + 1 = ((st + 1 : Nat) : Int) by omega, sliceS_from s (st + 1) (by omega), Option.bind_some, indexByte_val s (st + 1) 34]
      have hx := indexByteL_lt (s.data.toList.drop (st + 1)) 34
      rw [List.length_drop] at hx
      rw [show (34 : Int).toNat.toUInt8 = 34 from rfl]
      generalize hj : indexByteL (s.data.toList.drop (st + 1)) 34 = j at hx
      by_cases h0 : j < 0
      · rw [if_pos h0, if_pos (show decide (j < 0) = true by simp; omega)]
        rfl
      · rw [if_neg h0, if_neg (show ¬ (decide (j < 0) = true) by simp; omega)]
        obtain ⟨k, rfl⟩ := Int.eq_ofNat_of_zero_le (by omega : 0 ≤ j)
        rw [w64_id (n := ((st + 1 : Nat) : Int) + (k : Int)) (by omega) (by omega), show ((st + 1 : Nat) : Int) + (k : Int) = ((st + 1 + k : Nat) : Int) by omega, sliceS_nat s _ _ (by omega) (by omega)]
        simp only [Option.bind_some]
        rw [portref2_WordsOf_val _ (by rw [ByteArray.size_extract]; omega), extract_list]
        simp only [Option.bind_some, Int.toNat_natCast]
        rw [show st + 1 + k - (st + 1) = k by omega]
        generalize wordsL ((s.data.toList.drop (st + 1)).take k) = W
        by_cases hw : W = []
        · subst hw
          rfl
        · rw [if_neg hw, if_neg (show ¬ (((W.length : Int) == 0) = true) by simpa using hw), w64_id (n := (k : Int) + 2) (by omega) (by omega), w64_id (by omega) (by omega), show (st : Int) + ((k : Int) + 2) = ((st + k + 2 : Nat) : Int) by omega]
          simp only [Option.bind_some, Lp.andThen_fin]
          rw [htail _ _ (by omega)]
          split <;> rfl
    · rw [if_neg hq]
      simp only [hq, decide_false, Bool.false_eq_true, if_false]
      have e171 : (if (decide ((st : Int) < (s.size : Int))) = true then (Option.bind (idxS s (st : Int)) fun x172 => some (portref2_isWordByte (x172.toNat : Int))) else (some false)) = some (decide (runE s.data.toList st ≠ st)) := by
        by_cases h : st < s.size
        · have hb := List.getElem?_eq_getElem (l := s.data.toList) (i := st) (by omega)
          rw [if_pos (by simp; omega), idxS_list, hb, Option.bind_some]
          congr 1
          have hg1 := runE_ge s.data.toList (st + 1)
          cases hw : portref2_isWordByte (((s.data.toList[st]'(by omega)).toNat : Nat) : Int) with
          | true => have := runE_step hb hw; simp; omega
          | false => have := runE_stop (l := s.data.toList) (i := st) fun b h => (by rw [hb] at h; cases h; exact hw); simp; omega
        · rw [if_neg (by simp; omega)]
          have := runE_stop (l := s.data.toList) (i := st) fun b h => by rw [List.getElem?_eq_none (by omega)] at h; cases h
          simp [this]
      rw [e171, Option.bind_some]
      by_cases h0 : runE s.data.toList st = st
      · rw [if_neg (by simpa using h0), if_pos (by omega)]
        rfl
      · rw [if_pos (by simpa using h0), if_neg (by omega), word_loop2 (Z := Unit) s (by omega) st hst ⟨[]⟩ portref2_ReadQueryOf_1 (fun _ => rfl), Option.bind_some]
        by_cases h30 : runE s.data.toList st ≤ st + 30
        · rw [if_pos h30, Nat.min_eq_left h30]
          simp only [Lp.andThen_fin]
          rw [sliceS_nat s _ _ hg hr, Option.bind_some, portref2_lower_val _ (by rw [ByteArray.size_extract]; omega), Option.bind_some]
          have el : lowB (s.extract st (runE s.data.toList st)) = lowL ((s.data.toList.drop st).take (runE s.data.toList st - st)) := by
            unfold lowB lowL
            rw [extract_list]
          rw [el]
          have e247 : (if (decide (((runE s.data.toList st : Nat) : Int) < (s.size : Int))) = true then (Option.bind (idxS s ((runE s.data.toList st : Nat) : Int)) fun x248 => some ((x248.toNat : Int) == 42)) else (some false)) = some (decide (s.data.toList[runE s.data.toList st]? = some 42)) := by
            generalize runE s.data.toList st = E
            by_cases h : E < s.size
            · have hb := List.getElem?_eq_getElem (l := s.data.toList) (i := E) (by omega)
              rw [if_pos (by simp; omega), idxS_list, hb, Option.bind_some]
              congr 1
              rw [Bool.eq_iff_iff, beq_iff_eq, decide_eq_true_eq, Option.some_inj, ← UInt8.toNat_inj]
              show _ ↔ _ = 42
              omega
            · rw [if_neg (by simp; omega), List.getElem?_eq_none (by omega)]
              rfl
          rw [e247, Option.bind_some]
          by_cases h42 : s.data.toList[runE s.data.toList st]? = some 42
          · have h42l := (List.getElem?_eq_some_iff.1 h42).1
            rw [if_pos h42]
            simp only [h42, decide_true, if_true]
            rw [w64_id (by omega) (by omega), show ((runE s.data.toList st : Nat) : Int) + 1 = ((runE s.data.toList st + 1 : Nat) : Int) by omega]
            simp only [Option.bind_some, Lp.andThen_fin]
            rw [htail _ _ (by omega)]
            split <;> rfl
          · rw [if_neg h42]
            simp only [h42, decide_false, Bool.false_eq_true, if_false]
            simp only [Option.bind_some, Lp.andThen_fin]
            rw [htail _ _ (by omega)]
            split <;> rfl
        · rw [if_neg h30, Nat.min_eq_right (by omega)]
          obtain ⟨b, hb1, hb2⟩ := wb_run (l := s.data.toList) (i := st) (k := st + 30) (by omega) (by omega)
          have hlt := (List.getElem?_eq_some_iff.1 hb1).1
          have h42 : s.data.toList[st + 30]? ≠ some 42 := by rw [hb1]; intro e; cases e; exact absurd hb2 (by decide)
          have h32 : s.data.toList[st + 30]? ≠ some 32 := by rw [hb1]; intro e; cases e; exact absurd hb2 (by decide)
          rw [if_neg h42]
          simp only [Lp.andThen_rt]
          rw [if_pos ⟨hlt, h32⟩]
          rfl
  · subst hbody
    simp only
    rw [if_neg (by simp; omega)]
    refine ⟨_, rfl, ?_⟩
    rw [← h4, parse_end (by omega)]
    exact ⟨_, _, rfl⟩
theorem strEq_refl (s : ByteArray) : strEq s s = true := by
  unfold strEq
  simp
theorem equal_strings (l : List ByteArray) : slices_Equal_Lstring_string l l = some true := by
  unfold slices_Equal_Lstring_string
  rw [if_neg (by simp)]
  obtain ⟨t, h, _⟩ := rangeB_inv (R := Bool) (b := fun k9 _ => Option.bind (idx l (k9 : Int)) fun x29 => Option.bind (idx l (k9 : Int)) fun x33 => if (!(strEq x29 x33)) = true then some (.rt false) else some (.nx ())) l.length (fun _ _ => True) (s := ()) trivial fun k t hk _ => by
    rw [idx_lt l k hk]
    simp [strEq_refl]
  rw [h]
  rfl
theorem alike_query (q : know_Query) : portref2_Alike q q = some true := by
  unfold portref2_Alike
  rw [if_pos rfl]
  have h5 : ∀ p : know_Part, portref2_Alike_5 p p = some true := by
    intro p
    unfold portref2_Alike_5
    rw [if_pos (by simp), if_pos (by simp), equal_strings]
    rfl
  have : slices_EqualFunc_Lknow_Part_Lknow_Part_know_Part_know_Part q.parts q.parts (fun y45 y46 => portref2_Alike_5 y45 y46) = some true := by
    unfold slices_EqualFunc_Lknow_Part_Lknow_Part_know_Part_know_Part
    rw [if_neg (by simp)]
    obtain ⟨t, h, _⟩ := rangeB_inv (R := Bool) (b := fun k9 _ => Option.bind (idx q.parts (k9 : Int)) fun x29 => Option.bind (idx q.parts (k9 : Int)) fun x47 => Option.bind ((fun y45 y46 => portref2_Alike_5 y45 y46) x29 x47) fun x71 => if (!x71) = true then some (.rt false) else some (.nx ())) q.parts.length (fun _ _ => True) (s := ()) trivial fun k t hk _ => by
      rw [idx_lt q.parts k hk]
      simp [h5]
    rw [h]
    rfl
  rw [this]
  rfl
theorem reads_true (s : ByteArray) : portlaw2_QueryReads s = some true := by
  unfold portlaw2_QueryReads
  have h : ∃ r, know_ReadQuery s = some r ∧ portref2_ReadQueryOf s = some r := by
    by_cases hs : s.size ≤ 400
    · exact ⟨_, readQuery_val s hs, readQueryOf_val s hs⟩
    · refine ⟨(⟨[]⟩, 0, 4), ?_, ?_⟩
      · unfold know_ReadQuery; rw [if_pos (by simp; omega)]
      · unfold portref2_ReadQueryOf; rw [if_pos (by simp; omega)]
  obtain ⟨r, h1, h2⟩ := h
  rw [h1, h2, Option.bind_some, Option.bind_some, if_pos (by simp), if_pos (by simp), alike_query]
  rfl
end Go.Proofs.Ytgeagllbckdfhaa.M
