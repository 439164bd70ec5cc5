/-
  A query's check: code and reference agree (the text of QueryWrites, for other laws).
-/
import Derived.Test.YtkjlbaacbkdnfaaGreatDoorKnowSearchesWrdWords
import Derived.Test.YtkjlbaacbkdnfaaGreatDoorKnowSearchesJoinBase
namespace Go.Proofs.YtkjlbaacbkdnfaaGreatDoor.M
open Go Go.Pu
set_option linter.unusedSimpArgs false
set_option linter.unusedVariables false

/-- a part that can be written -/
def badP (p : know_Part) : Bool := (((decide (p.kind < 0)) || (decide ((2 : Int) < p.kind))) || ((p.words.length : Int) == 0)) || ((p.kind != 1) && ((p.words.length : Int) != 1))
theorem badP_prog (p : know_Part) : (((!(know_within p.kind 0 2)) || ((p.words.length : Int) == 0)) || ((p.kind != 1) && (decide ((1 : Int) < (p.words.length : Int))))) = badP p := by
  unfold badP know_within
  rw [Bool.eq_iff_iff]
  simp only [Bool.or_eq_true, Bool.and_eq_true, Bool.not_eq_true', Bool.and_eq_false_iff, decide_eq_true_eq, decide_eq_false_iff_not, beq_iff_eq, bne_iff_ne]
  omega
def badW (w : ByteArray) : Bool := ((((wordsL w.data.toList).length : Int) != 1)) || (!(strEq ((wordsL w.data.toList).headD ⟨#[]⟩) w))
def partText (p : know_Part) : ByteArray :=
  let s := joinB p.words ⟨#[32]⟩
  let s := if p.kind = 1 then ((⟨#[34]⟩ : ByteArray) ++ s) ++ ⟨#[34]⟩ else if p.kind = 2 then s ++ ⟨#[42]⟩ else s
  if p.not_ = true then (⟨#[45]⟩ : ByteArray) ++ s else s
def roundW (l : List know_Part) (k : Nat) (s : List ByteArray) : Option (Ctl (List ByteArray) (ByteArray × Int)) :=
  Option.bind (idx l (k : Int)) fun p => if badP p = true then some (.rt (⟨#[]⟩, 1)) else if p.words.any badW = true then some (.rt (⟨#[]⟩, 1)) else some (.nx (s ++ [partText p]))
theorem words_any (W : ByteArray → Option (List ByteArray)) (l : List ByteArray) (hW : ∀ w ∈ l, W w = some (wordsL w.data.toList)) :
    rangeB (R := ByteArray × Int) (fun k86 (_ : Unit) => Option.bind (idx l (k86 : Int)) fun x105 => Option.bind (W x105) fun x109 => Option.bind (if ((x109.length : Int) != 1) = true then (some true) else (Option.bind (idx x109 0) fun x119 => some (!(strEq x119 x105)))) fun s118 => if s118 = true then some (.rt ((⟨#[]⟩ : ByteArray), 1)) else some (.nx ())) l.length 0 () = some (if l.any badW = true then .rt (⟨#[]⟩, 1) else .fin ()) := by
  rw [← forL_any badW ((⟨#[]⟩ : ByteArray), (1 : Int)) l 0]
  refine rangeB_forL l _ _ ?_ _
  intro k _ x hx
  rw [idx_nat, hx, Option.bind_some, hW x (List.mem_of_getElem? hx), Option.bind_some]
  unfold badW
  by_cases h1 : (((wordsL x.data.toList).length : Int) != 1) = true
  · rw [if_pos h1, h1]
    simp
  · rw [if_neg h1]
    have h2 : (wordsL x.data.toList).length = 1 := by
      simp at h1
      omega
    obtain ⟨a, ha⟩ := List.length_eq_one_iff.1 h2
    rw [ha]
    simp [idx]
theorem bulk_words : ∀ l : List ByteArray, (∀ w ∈ l, w.size ≤ (l.map fun s => s.size + 1).sum) ∧ l.length ≤ (l.map fun s => s.size + 1).sum
  | [] => by simp
  | x :: l => by
    obtain ⟨h1, h2⟩ := bulk_words l
    simp only [List.map_cons, List.sum_cons, List.length_cons]
    refine ⟨fun w hw => ?_, by omega⟩
    rcases List.mem_cons.1 hw with rfl | h
    · omega
    · have := h1 w h; omega
theorem bulk_parts : ∀ l : List know_Part, ∀ p ∈ l, (p.words.map fun s => s.size + 1).sum ≤ (l.map fun p : know_Part => 1 + (1 + ((p.words.map fun s => s.size + 1).sum + 1))).sum
  | [], p, h => by cases h
  | x :: l, p, h => by
    simp only [List.map_cons, List.sum_cons]
    rcases List.mem_cons.1 h with rfl | h
    · omega
    · have := bulk_parts l p h; omega
theorem text_val (p : know_Part) (hw : ∀ w ∈ p.words, w.size ≤ 1048576) (hl : p.words.length ≤ 1048576) :
    strings_Join p.words (⟨#[32]⟩ : ByteArray) = some (joinB p.words ⟨#[32]⟩) ∧ (joinB p.words ⟨#[32]⟩).size ≤ 1099600000000 := by
  have h : (1048576 + 1) * p.words.length ≤ 1099512676352 := by
    have := Nat.mul_le_mul_left (1048576 + 1) hl
    omega
  have h2 := join_len 1048576 1 p.words ⟨#[32]⟩ hw (by decide)
  exact ⟨join_some 1048576 1 p.words _ hw (by decide) (by omega) (by omega), by omega⟩
theorem tail_val (p : know_Part) (hw : ∀ w ∈ p.words, w.size ≤ 1048576) (hl : p.words.length ≤ 1048576) (s : List ByteArray) (hs : s.length ≤ 1000) :
    (Option.bind (strings_Join p.words (⟨#[32]⟩ : ByteArray)) fun x132 => Option.bind (Option.bind (if (p.kind == 1) = true then Option.bind (catS (⟨#[34]⟩ : ByteArray) x132) fun x150 => Option.bind (catS x150 (⟨#[34]⟩ : ByteArray)) fun x151 => some x151 else Option.bind (if (p.kind == 2) = true then Option.bind (catS x132 (⟨#[42]⟩ : ByteArray)) fun x160 => some x160 else some x132) fun s154 => some s154) fun s144 => some s144) fun s138 => Option.bind (if p.not_ = true then Option.bind (catS (⟨#[45]⟩ : ByteArray) s138) fun x173 => some x173 else some s138) fun s167 => Option.bind (appendL 8796093022208 s ([s167] : List ByteArray)) fun x181 => some (Ctl.nx (R := ByteArray × Int) x181)) = some (.nx (s ++ [partText p])) ∧ (partText p).size ≤ 1099700000000 := by
  obtain ⟨h1, h2⟩ := text_val p hw hl
  rw [h1, Option.bind_some]
  unfold partText
  generalize joinB p.words ⟨#[32]⟩ = x at h2
  have s1 : ∀ b : UInt8, (⟨#[b]⟩ : ByteArray).size = 1 := fun b => rfl
  have e1 := cat_val (⟨#[34]⟩ : ByteArray) x (by rw [s1]; omega) (by omega)
  rw [s1] at e1
  have e2 := cat_val ((⟨#[34]⟩ : ByteArray) ++ x) (⟨#[34]⟩ : ByteArray) (by omega) (by rw [s1]; omega)
  rw [s1] at e2
  have e3 := cat_val x (⟨#[42]⟩ : ByteArray) (by omega) (by rw [s1]; omega)
  rw [s1] at e3
  have hx : ∃ y, (Option.bind (if (p.kind == 1) = true then Option.bind (catS (⟨#[34]⟩ : ByteArray) x) fun x150 => Option.bind (catS x150 (⟨#[34]⟩ : ByteArray)) fun x151 => some x151 else Option.bind (if (p.kind == 2) = true then Option.bind (catS x (⟨#[42]⟩ : ByteArray)) fun x160 => some x160 else some x) fun s154 => some s154) fun s144 => some s144) = some y ∧ y = (if p.kind = 1 then ((⟨#[34]⟩ : ByteArray) ++ x) ++ ⟨#[34]⟩ else if p.kind = 2 then x ++ ⟨#[42]⟩ else x) ∧ y.size ≤ 1099600000010 := by
    by_cases k1 : p.kind = 1
    · rw [if_pos (by simpa using k1), if_pos k1, e1.1, Option.bind_some, e2.1]
      exact ⟨_, rfl, rfl, by omega⟩
    · rw [if_neg (by simpa using k1), if_neg k1]
      by_cases k2 : p.kind = 2
      · rw [if_pos (by simpa using k2), if_pos k2, e3.1]
        exact ⟨_, rfl, rfl, by omega⟩
      · rw [if_neg (by simpa using k2), if_neg k2]
        exact ⟨_, rfl, rfl, by omega⟩
  obtain ⟨y, hy, hy2, hy3⟩ := hx
  rw [hy, Option.bind_some]
  simp only
  rw [← hy2]
  have e4 := cat_val (⟨#[45]⟩ : ByteArray) y (by rw [s1]; omega) (by omega)
  rw [s1] at e4
  by_cases hn : p.not_ = true
  · rw [if_pos hn, if_pos hn, e4.1, Option.bind_some, Option.bind_some, append_some (by simp; omega)]
    exact ⟨rfl, by omega⟩
  · rw [if_neg hn, if_neg hn, Option.bind_some, append_some (by simp; omega)]
    exact ⟨rfl, by omega⟩
def sizesOk (q : know_Query) : Prop := ∀ p ∈ q.parts, (∀ w ∈ p.words, w.size ≤ 1048576) ∧ p.words.length ≤ 1048576
/-- the loop over the parts -/
theorem parts_loop (q : know_Query) (h20 : q.parts.length ≤ 20) (hq : sizesOk q) (B : know_Part → Bool) (hB : ∀ p, B p = badP p) (W : ByteArray → Option (List ByteArray)) (hW : ∀ w : ByteArray, w.size ≤ 8796093022208 → W w = some (wordsL w.data.toList)) :
    ∃ r, rangeB (fun k21 s29 => Option.bind (idx q.parts (k21 : Int)) fun x44 => if B x44 = true then some (.rt ((⟨#[]⟩ : ByteArray), (1 : Int))) else Option.bind (rangeB (fun k86 _ => Option.bind (idx x44.words (k86 : Int)) fun x105 => Option.bind (W x105) fun x109 => Option.bind (if ((x109.length : Int) != 1) = true then (some true) else (Option.bind (idx x109 0) fun x119 => some (!(strEq x119 x105)))) fun s118 => if s118 = true then some (.rt ((⟨#[]⟩ : ByteArray), (1 : Int))) else some (.nx ())) x44.words.length 0 ()) fun o83 => o83.andThen (fun y => some (.rt y)) fun s84 => Option.bind (strings_Join x44.words (⟨#[32]⟩ : ByteArray)) fun x132 => Option.bind (Option.bind (if (x44.kind == 1) = true then Option.bind (catS (⟨#[34]⟩ : ByteArray) x132) fun x150 => Option.bind (catS x150 (⟨#[34]⟩ : ByteArray)) fun x151 => some x151 else Option.bind (if (x44.kind == 2) = true then Option.bind (catS x132 (⟨#[42]⟩ : ByteArray)) fun x160 => some x160 else some x132) fun s154 => some s154) fun s144 => some s144) fun s138 => Option.bind (if x44.not_ = true then Option.bind (catS (⟨#[45]⟩ : ByteArray) s138) fun x173 => some x173 else some s138) fun s167 => Option.bind (appendL 8796093022208 s29 ([s167] : List ByteArray)) fun x181 => some (.nx x181)) q.parts.length 0 ([] : (List ByteArray)) = some r ∧ rangeB (roundW q.parts) q.parts.length 0 [] = some r ∧ (∀ t, r = .fin t → t.length ≤ 20 ∧ ∀ x ∈ t, x.size ≤ 1099700000000) := by
  generalize hbody : (fun (k21 : Nat) (s29 : List ByteArray) => _) = body
  suffices hx : (∃ r, rangeB body q.parts.length 0 ([] : List ByteArray) = some (.rt r) ∧ rangeB (roundW q.parts) q.parts.length 0 [] = some (.rt r) ∧ True) ∨ ∃ t t', rangeB body q.parts.length 0 ([] : List ByteArray) = some (.fin t) ∧ rangeB (roundW q.parts) q.parts.length 0 [] = some (.fin t') ∧ (t = t' ∧ t.length ≤ q.parts.length ∧ ∀ x ∈ t, x.size ≤ 1099700000000) by
    rcases hx with ⟨r, h1, h2, _⟩ | ⟨t, t', h1, h2, rfl, h3, h4⟩
    · exact ⟨_, h1, h2, fun t h => by cases h⟩
    · exact ⟨_, h1, h2, fun t h => by cases h; exact ⟨by omega, h4⟩⟩
  refine rangeB_sim q.parts.length (fun _ => True) (fun k (s s' : List ByteArray) => s = s' ∧ s.length ≤ k ∧ ∀ x ∈ s, x.size ≤ 1099700000000) ⟨rfl, by simp, by simp⟩ ?_
  rintro k s _ hk ⟨rfl, h1, h2⟩
  subst hbody
  simp only
  have hm := List.getElem_mem hk
  obtain ⟨hp1, hp2⟩ := hq _ hm
  unfold roundW
  rw [idx_lt _ _ hk]
  generalize q.parts[k] = p at hp1 hp2
  rw [Option.bind_some, Option.bind_some, hB]
  by_cases hb : badP p = true
  · rw [if_pos hb, if_pos hb]
    exact .inl ⟨_, rfl, rfl, trivial⟩
  rw [if_neg hb, if_neg hb, words_any W p.words fun w hw => hW w (by have := hp1 w hw; omega), Option.bind_some]
  by_cases ha : p.words.any badW = true
  · rw [if_pos ha, if_pos ha]
    exact .inl ⟨_, rfl, rfl, trivial⟩
  rw [if_neg ha, if_neg ha, Lp.andThen_fin]
  obtain ⟨e1, e2⟩ := tail_val p hp1 hp2 s (by omega)
  refine .inr ⟨_, _, e1, rfl, rfl, by simp; omega, ?_⟩
  intro x hx
  rcases List.mem_append.1 hx with h | h
  · exact h2 x h
  · rw [List.mem_singleton.1 h]; exact e2
theorem roundW_ok (l : List know_Part) {o : Lp (List ByteArray) (ByteArray × Int)} (h : rangeB (roundW l) l.length 0 [] = some o) : o = .rt (⟨#[]⟩, 1) ∨ ∀ p ∈ l, badP p = false ∧ p.words.any badW = false := by
  obtain ⟨o', ho, hq⟩ := rangeB_spec (body := roundW l) l.length (fun k _ => ∀ j p, j < k → l[j]? = some p → badP p = false ∧ p.words.any badW = false) (fun o => o = .rt (⟨#[]⟩, 1) ∨ ∀ p ∈ l, badP p = false ∧ p.words.any badW = false) (s := []) (fun j p hj => by omega) (by
    intro k s hk hI
    unfold roundW
    have hpk : l[k]? = some l[k] := List.getElem?_eq_getElem hk
    rw [idx_lt _ _ hk]
    generalize l[k] = p at hpk
    rw [Option.bind_some]
    cases hb : badP p with
    | true => exact ⟨_, rfl, Or.inl rfl⟩
    | false =>
      cases ha : p.words.any badW with
      | true => exact ⟨_, rfl, Or.inl rfl⟩
      | false =>
        refine ⟨_, rfl, fun j u hj hu => ?_⟩
        rcases Nat.lt_or_eq_of_le (Nat.le_of_lt_succ hj) with h | rfl
        · exact hI j u h hu
        · rw [hpk] at hu; cases hu; exact ⟨hb, ha⟩) (fun s hI => Or.inr fun p hp => by
    obtain ⟨j, hj⟩ := List.mem_iff_getElem?.1 hp
    exact hI j p (List.getElem?_eq_some_iff.1 hj).1 hj)
  rw [h] at ho
  cases ho
  exact hq
theorem query_eq (q : know_Query) (hok : sizesOk q) : ∃ r, know_QueryText q = some r ∧ portref2_QueryFault q = some r ∧ (r.2 = 0 → q.parts.length ≤ 20 ∧ ∀ p ∈ q.parts, badP p = false ∧ p.words.any badW = false) := by
  unfold know_QueryText portref2_QueryFault
  by_cases h : 20 < q.parts.length
  · rw [if_pos (by simp; omega), if_pos (by simp; omega)]
    exact ⟨_, rfl, rfl, fun h => absurd h (by decide)⟩
  rw [if_neg (by simp; omega), if_neg (by simp; omega)]
  obtain ⟨r1, a1, a2, a3⟩ := parts_loop q (by omega) hok _ badP_prog know_Words know_Words_val
  obtain ⟨r2, b1, b2, _⟩ := parts_loop q (by omega) hok badP (fun _ => rfl) portref2_WordsOf portref2_WordsOf_val
  obtain rfl : r1 = r2 := Option.some.inj (a2.symm.trans b2)
  have b1' := b1
  unfold badP at b1'
  rw [a1, b1']
  simp only [Option.bind_some]
  rcases r1 with t | r
  · obtain ⟨h1, h2⟩ := a3 t rfl
    have hgood := (roundW_ok q.parts (o := .fin t) a2).resolve_left (fun h => by cases h)
    simp only [Lp.andThen_fin]
    have : (1099700000000 + 1) * t.length ≤ 21994000000020 := by
      have := Nat.mul_le_mul_left (1099700000000 + 1) h1
      omega
    rw [join_some 1099700000000 1 t _ h2 (by decide) (by omega) (by omega)]
    simp only [Option.bind_some]
    split
    · exact ⟨_, rfl, rfl, fun h => absurd h (by decide)⟩
    · exact ⟨_, rfl, rfl, fun _ => ⟨by omega, hgood⟩⟩
  · have hr := (roundW_ok q.parts (o := .rt r) a2)
    rcases hr with hr | hr
    · cases hr
      exact ⟨_, rfl, rfl, fun h => absurd h (by decide)⟩
    · exact ⟨_, rfl, rfl, fun h => ⟨by omega, hr⟩⟩
end Go.Proofs.YtkjlbaacbkdnfaaGreatDoor.M
