/-
  Templates: a whole template, read by the code and by the document: plain part.
-/
import Derived.Test.YtfdhiclmjfkflaaDoorTemplateFillsTplField
namespace Go.Proofs.YtfdhiclmjfkflaaDoor.M
open Go Go.Pu
set_option linter.unusedSimpArgs false
set_option linter.unusedVariables false

theorem rd_end (st bd : UInt8 → Bool) (ok b : List UInt8) (i : Nat) : (rd st bd ok b i).2.1 = true → b[(rd st bd ok b i).2.2]? = none ∨ ∃ c, b[(rd st bd ok b i).2.2]? = some c ∧ st c = true := by
  induction i using rd.induct st bd ok b with
  | case1 i h h1 => intro _; rw [rd_stop (List.getElem?_eq_getElem h) h1]; exact Or.inr ⟨_, List.getElem?_eq_getElem h, h1⟩
  | case2 i h h1 h2 h3 ih =>
    intro hq
    have hc : b[i]? = some 92 := by rw [List.getElem?_eq_getElem h, h2]
    have hst : st 92 = false := by rw [← h2]; simpa using h1
    rw [rd_escK hc hst h3, esc_right h3] at hq ⊢
    exact ih hq
  | case3 i h h1 h2 h3 =>
    intro hq
    have hc : b[i]? = some 92 := by rw [List.getElem?_eq_getElem h, h2]
    have hst : st 92 = false := by rw [← h2]; simpa using h1
    rw [rd_escB hc hst (by simpa using h3)] at hq
    cases hq
  | case4 i h h1 h2 h3 => intro hq; rw [rd_bad (List.getElem?_eq_getElem h) (by simpa using h1) h2 h3] at hq; cases hq
  | case5 i h h1 h2 h3 ih =>
    intro hq
    rw [rd_byte (List.getElem?_eq_getElem h) (by simpa using h1) h2 (by simpa using h3)] at hq ⊢
    exact ih hq
  | case6 i h => intro _; exact Or.inl (by rw [rd_fin (List.getElem?_eq_none (by omega))]; exact List.getElem?_eq_none (by simp only; omega))
/-- what a template is: texts with the fields behind them, the last text, whether it is right, where it ends -/
def prs (s : ByteArray) (i : Nat) : List (List UInt8 × know_field) × List UInt8 × Bool × Nat :=
  if (rdT s.data.toList i).2.1 = true then
    if (rdT s.data.toList i).2.2 = s.size then ([], (rdT s.data.toList i).1, true, s.size)
    else if (fld s (rdT s.data.toList i).2.2).2.1 = true then
      (if h : i < (fld s (rdT s.data.toList i).2.2).2.2 ∧ (fld s (rdT s.data.toList i).2.2).2.2 ≤ s.size then (((rdT s.data.toList i).1, (fld s (rdT s.data.toList i).2.2).1) :: (prs s (fld s (rdT s.data.toList i).2.2).2.2).1, (prs s (fld s (rdT s.data.toList i).2.2).2.2).2) else ([], [], false, 0))
    else ([], [], false, (fld s (rdT s.data.toList i).2.2).2.2)
  else ([], [], false, (rdT s.data.toList i).2.2)
termination_by s.size - i
def txt (t : List UInt8) : List know_field := if t = [] then [] else [⟨ByteArray.empty, 0, toB t, ByteArray.empty⟩]
def flt (L : List (List UInt8 × know_field)) : List know_field := L.flatMap fun p => txt p.1 ++ [p.2]
theorem toB_empty (t : List UInt8) : (!(strEq (toB t) (⟨#[]⟩ : ByteArray))) = !(decide (t = [])) := by
  congr 1
  rw [Bool.eq_iff_iff, decide_eq_true_eq]
  unfold strEq
  rw [beq_iff_eq, ByteArray.toList_eq, ByteArray.toList_eq, toB_list]
theorem rdT_stop {b : List UInt8} {i : Nat} (h : (rdT b i).2.1 = true) (h2 : (rdT b i).2.2 < b.length) : b[(rdT b i).2.2]? = some 123 := by
  rcases rd_end stT (fun _ => false) [123, 92] b i h with h1 | ⟨c, h1, hc⟩
  · have := List.getElem?_eq_getElem h2
    exact absurd (h1.symm.trans this) (by simp)
  · have : c = 123 := by simpa [stT] using hc
    rw [this] at h1; exact h1
def good (f : know_field) : Prop := 1 ≤ f.name.size ∧ (f.kind = 0 ∨ f.kind = 124 ∨ f.kind = 63)
theorem parse_val (s : ByteArray) (hs : s.size ≤ 20000) : ∃ l, know_parse s = some (l, ((prs s 0).2.2.2 : Int), (prs s 0).2.2.1) ∧ ((prs s 0).2.2.1 = true → l = flt (prs s 0).1 ++ txt (prs s 0).2.1 ∧ ∀ p ∈ (prs s 0).1, good p.2) ∧ (prs s 0).1.length ≤ 20000 := by
  unfold know_parse
  obtain ⟨o, ho, l, rfl, h1⟩ := whileB_spec (R := List know_field × Int × Bool) (body := fun s17 : List know_field × know_templateReader => Option.bind (know_templateReader_text s17.2) fun x30 => Option.bind (if (!(strEq x30.1 (⟨#[]⟩ : ByteArray))) = true then Option.bind (appendL 2513169434916 s17.1 ([(⟨ByteArray.empty, 0, x30.1, ByteArray.empty⟩ : know_field)] : List know_field)) fun x51 => some x51 else some s17.1) fun s36 => if (x30.2.wrong || (x30.2.at_ == (s.size : Int))) = true then some (.rt (s36, x30.2.at_, !x30.2.wrong)) else Option.bind (know_templateReader_field x30.2) fun x65 => Option.bind (appendL 2513169434916 s36 ([x65.1] : List know_field)) fun x76 => if x65.2.wrong = true then some (.rt (([] : (List know_field)), x65.2.at_, false)) else some (.nx (x76, x65.2)))
    (fun z => ∃ (L : List (List UInt8 × know_field)) (i : Nat), z = (flt L, ⟨s, (i : Int), false⟩) ∧ i ≤ s.size ∧ L.length ≤ i ∧ prs s 0 = (L ++ (prs s i).1, (prs s i).2) ∧ ∀ p ∈ L, good p.2) (fun z => s.size - z.2.at_.toNat)
    (fun o => ∃ l, o = .rt (l, ((prs s 0).2.2.2 : Int), (prs s 0).2.2.1) ∧ ((prs s 0).2.2.1 = true → l = flt (prs s 0).1 ++ txt (prs s 0).2.1 ∧ ∀ p ∈ (prs s 0).1, good p.2) ∧ (prs s 0).1.length ≤ 20000) (s := (([] : (List know_field)), (⟨s, 0, false⟩ : know_templateReader)))
    ⟨[], 0, rfl, by omega, Nat.le_refl _, rfl, by simp⟩ (by
      rintro _ ⟨L, i, rfl, j1, j2, j3, j4⟩
      have hf : (flt L).length ≤ 2 * L.length := by
        clear j2 j3 j4
        induction L with
        | nil => exact Nat.le_refl _
        | cons p L ih =>
          have : (txt p.1).length ≤ 1 := by unfold txt; split <;> simp
          unfold flt at ih ⊢
          rw [List.flatMap_cons, List.length_append, List.length_append, List.length_cons, List.length_cons, List.length_nil]
          omega
      obtain ⟨t1, t2, t3⟩ := text_val s hs i j1
      simp only
      rw [t1, Option.bind_some]
      simp only
      have hpr := prs.eq_1 s i
      have hstop := @rdT_stop s.data.toList i
      generalize rdT s.data.toList i = q at t2 t3 hpr hstop
      obtain ⟨qt, qw, qk⟩ := q
      simp only at t2 t3 hpr hstop ⊢
      have e1 : (if (!(strEq (toB qt) (⟨#[]⟩ : ByteArray))) = true then Option.bind (appendL 2513169434916 (flt L) ([(⟨ByteArray.empty, 0, toB qt, ByteArray.empty⟩ : know_field)] : List know_field)) fun x51 => some x51 else some (flt L)) = some (flt L ++ txt qt) := by
        rw [toB_empty]
        unfold txt
        by_cases h0 : qt = []
        · rw [if_pos h0, if_neg (by simp [h0]), List.append_nil]
        · rw [if_neg h0, if_pos (by simp [h0]), appendL, if_pos (by simp; omega)]; rfl
      rw [e1, Option.bind_some]
      cases qw with
      | false =>
        rw [if_neg (by decide)] at hpr
        rw [if_pos (by simp)]
        refine ⟨_, rfl, flt L ++ txt qt, ?_, fun h => ?_, ?_⟩
        · rw [j3, hpr]; rfl
        · rw [j3, hpr] at h; cases h
        · rw [j3, hpr]; simp; omega
      | true =>
        rw [if_pos rfl] at hpr
        by_cases hk : qk = s.size
        · rw [if_pos hk] at hpr
          rw [if_pos (by simp [hk])]
          refine ⟨_, rfl, flt L ++ txt qt, ?_, fun h => ?_, ?_⟩
          · rw [j3, hpr, hk]; rfl
          · rw [j3, hpr]; simp only [List.append_nil]; exact ⟨trivial, j4⟩
          · rw [j3, hpr]; simp; omega
        · rw [if_neg hk] at hpr
          rw [if_neg (by simp; omega)]
          obtain ⟨f, f1, f2, f3, f4⟩ := field_val s hs qk (hstop rfl (by rw [t_len]; omega))
          simp only [Bool.not_true]
          rw [f1, Option.bind_some]
          simp only
          rw [appendL, if_pos (by simp; unfold txt; split <;> simp <;> omega), Option.bind_some]
          cases hw : (fld s qk).2.1 with
          | false =>
            rw [hw, if_neg (by decide)] at hpr
            rw [if_pos (by simp)]
            refine ⟨_, rfl, [], ?_, fun h => ?_, ?_⟩
            · rw [j3, hpr]
            · rw [j3, hpr] at h; cases h
            · rw [j3, hpr]; simp; omega
          | true =>
            obtain ⟨g1, g2⟩ := f4 hw
            subst g1
            rw [hw, if_pos rfl, dif_pos ⟨by omega, f3⟩] at hpr
            rw [if_neg (by simp)]
            refine ⟨_, rfl, ⟨L ++ [(qt, (fld s qk).1)], (fld s qk).2.2, ?_, f3, by simp; omega, ?_, ?_⟩, ?_⟩
            · rw [Prod.mk.injEq]
              refine ⟨?_, by simp⟩
              unfold flt
              rw [List.flatMap_append, List.append_assoc, List.flatMap_cons, List.flatMap_nil, List.append_nil]
            · rw [j3, hpr]; simp
            · intro p hp
              rcases List.mem_append.1 hp with hp | hp
              · exact j4 p hp
              · rw [List.mem_singleton.1 hp]; exact g2
            · simp only [Int.toNat_natCast]; omega)
  rw [ho, Option.bind_some, Lp.andThen_rt]
  exact ⟨l, rfl, h1⟩

theorem ib_val2 (t : List UInt8) (c : UInt8) : decide (0 ≤ strings_IndexByte ⟨t.toArray⟩ (c.toNat : Int)) = t.contains c := by
  have h := ib_val t c
  rw [show decide (0 ≤ strings_IndexByte ⟨t.toArray⟩ (c.toNat : Int)) = !(decide (strings_IndexByte ⟨t.toArray⟩ (c.toNat : Int) < 0)) by
    by_cases h1 : strings_IndexByte ⟨t.toArray⟩ (c.toNat : Int) < 0
    · simp [h1]
    · simp [h1]; omega, h, Bool.not_not]
theorem fs_val (s : ByteArray) (hs : s.size ≤ 20000) (E E' : List UInt8) (h1 : ∀ c, E.contains c = true → E'.contains c = true) (h2 : ∀ c, E'.contains c = true → E.contains c = true ∨ c = 125) (h3 : E'.contains 92 = false) (i : Nat) (hi : i ≤ s.size) :
    portref2_fieldString s (i : Int) ⟨E.toArray⟩ = some (if (rdC E' s.data.toList i).2.1 = true ∧ (s.data.toList[(rdC E' s.data.toList i).2.2]?.any fun c => E.contains c) = true then (toB (rdC E' s.data.toList i).1, ((rdC E' s.data.toList i).2.2 : Int), true) else ((⟨#[]⟩ : ByteArray), ((rdC E' s.data.toList i).2.2 : Int), false)) := by
  unfold portref2_fieldString
  obtain ⟨o, ho, hq⟩ := whileB_spec (R := ByteArray × Int × Bool) (body := fun s8 : Int × ByteArray => if (decide (s8.1 < (s.size : Int))) = true then Option.bind (idxS s s8.1) fun x18 => Option.bind (α := Lp _ _) (Option.bind (α := Lp _ _) (if (decide ((0 : Int) ≤ (strings_IndexByte (⟨E.toArray⟩ : ByteArray) (x18.toNat : Int)))) = true then some (.rt (s8.2, s8.1, true)) else Option.bind (α := Lp _ _) (if ((x18.toNat : Int) == 92) = true then Option.bind (if ((w64 (s8.1 + 1)) == (s.size : Int)) = true then (some true) else (Option.bind (idxS s (w64 (s8.1 + 1))) fun x41 => some (decide ((strings_IndexByte (⟨#[125, 58, 124, 123, 92]⟩ : ByteArray) (x41.toNat : Int)) < 0)))) fun s40 => if s40 = true then some (.rt ((⟨#[]⟩ : ByteArray), w64 (s8.1 + 1), false)) else Option.bind (sliceS s (some (w64 (s8.1 + 1))) (some (w64 ((w64 (s8.1 + 1)) + 1)))) fun x43 => Option.bind (catS s8.2 x43) fun x44 => some (.fin (w64 (s8.1 + 1), x44)) else if ((((x18.toNat : Int) == 123) || ((x18.toNat : Int) == 125)) || ((x18.toNat : Int) == 10)) = true then some (.rt ((⟨#[]⟩ : ByteArray), s8.1, false)) else Option.bind (sliceS s (some s8.1) (some (w64 (s8.1 + 1)))) fun x51 => Option.bind (catS s8.2 x51) fun x52 => some (.fin (s8.1, x52))) fun o32 => o32.andThen (fun y => some (.rt y)) fun s33 => some (.fin (s33.1, s33.2))) fun o25 => o25.andThen (fun y => some (.rt y)) fun s26 => some (.fin (s26.1, s26.2))) fun o19 => o19.andThen (fun y => some (.rt y)) fun s20 => some (.nx (w64 (s20.1 + 1), s20.2)) else some (.bk (s8.1, s8.2)))
    (fun z => ∃ (t : List UInt8) (j : Nat), z = ((j : Int), toB t) ∧ i ≤ j ∧ j ≤ s.size ∧ t.length ≤ j ∧ rdC E' s.data.toList i = (t ++ (rdC E' s.data.toList j).1, (rdC E' s.data.toList j).2)) (fun z => s.size - z.1.toNat)
    (fun o => o = .rt (if (rdC E' s.data.toList i).2.1 = true ∧ (s.data.toList[(rdC E' s.data.toList i).2.2]?.any fun c => E.contains c) = true then (toB (rdC E' s.data.toList i).1, ((rdC E' s.data.toList i).2.2 : Int), true) else ((⟨#[]⟩ : ByteArray), ((rdC E' s.data.toList i).2.2 : Int), false)) ∨ ∃ t, o = .fin (((rdC E' s.data.toList i).2.2 : Int), t) ∧ ¬ ((rdC E' s.data.toList i).2.1 = true ∧ (s.data.toList[(rdC E' s.data.toList i).2.2]?.any fun c => E.contains c) = true)) (s := ((i : Int), toB []))
    ⟨[], i, rfl, Nat.le_refl _, hi, Nat.zero_le _, by simp⟩ (by
      rintro _ ⟨t, j, rfl, j1, j2, j3, k5⟩
      simp only
      by_cases hj : j < s.size
      rotate_left
      · rw [if_neg (by simp; omega)]
        have e : rdC E' s.data.toList j = ([], true, j) := rd_fin (List.getElem?_eq_none (by rw [t_len]; omega))
        rw [e] at k5
        refine ⟨_, rfl, Or.inr ⟨toB t, ?_, ?_⟩⟩
        · rw [k5]
        · rw [k5]
          simp only
          rw [List.getElem?_eq_none (by rw [t_len]; omega)]
          simp
      have hjl : j < s.data.toList.length := by rw [t_len]; exact hj
      have hc := List.getElem?_eq_getElem hjl
      have hone := t_one s j hjl
      generalize s.data.toList[j] = c at hc hone
      have hwi : w64 ((j : Int) + 1) = ((j + 1 : Nat) : Int) := by rw [w64_id (by omega) (by omega)]; rfl
      rw [if_pos (by simp; omega), t_idxS, hc, Option.bind_some, ib_val2]
      by_cases hE : E.contains c = true
      · rw [if_pos hE]
        have e : rdC E' s.data.toList j = ([], true, j) := rd_stop hc (h1 c hE)
        rw [e, List.append_nil] at k5
        simp only [Option.bind_some, Lp.andThen_rt]
        refine ⟨_, rfl, Or.inl ?_⟩
        rw [k5]
        simp only
        rw [hc, if_pos ⟨trivial, hE⟩]
      rw [if_neg hE]
      rw [show ((c.toNat : Int) == 92) = (c == 92) from u8_eq c 92 (by omega)]
      by_cases h92 : c = 92
      · subst h92
        rw [if_pos (by decide), hwi]
        by_cases hj2 : j + 1 = s.size
        · rw [if_pos (by simp [hj2])]
          have e0 : esc s.data.toList [125, 58, 124, 123, 92] j = ([], false, j + 1) := by unfold esc; rw [List.getElem?_eq_none (by rw [t_len]; omega)]
          have e : rdC E' s.data.toList j = ([], false, j + 1) := by unfold rdC; rw [rd_escB hc h3 (by rw [e0]), e0]
          rw [e, List.append_nil] at k5
          simp only [Option.bind_some, if_true, Lp.andThen_rt]
          refine ⟨_, rfl, Or.inl ?_⟩
          rw [k5]
          rw [if_neg (by simp)]
        · rw [if_neg (by simp; omega)]
          have hjl2 : j + 1 < s.data.toList.length := by rw [t_len]; omega
          have hc2 := List.getElem?_eq_getElem hjl2
          have hone2 := t_one s (j + 1) hjl2
          generalize s.data.toList[j + 1] = d at hc2 hone2
          have hiv : decide (strings_IndexByte (⟨#[125, 58, 124, 123, 92]⟩ : ByteArray) (d.toNat : Int) < 0) = !(([125, 58, 124, 123, 92] : List UInt8).contains d) := ib_val [125, 58, 124, 123, 92] d
          rw [t_idxS, hc2, Option.bind_some, hiv, Option.bind_some]
          by_cases hd : ([125, 58, 124, 123, 92] : List UInt8).contains d = true
          · have e0 : esc s.data.toList [125, 58, 124, 123, 92] j = ([d], true, j + 2) := by unfold esc; rw [hc2]; simp only [hd, if_true]
            have e : rdC E' s.data.toList j = ([d] ++ (rdC E' s.data.toList (j + 2)).1, (rdC E' s.data.toList (j + 2)).2) := by
              unfold rdC; rw [rd_escK hc h3 (by rw [e0]), e0]
            have hwj : w64 (((j + 1 : Nat) : Int) + 1) = ((j + 2 : Nat) : Int) := by rw [w64_id (by omega) (by omega)]; rfl
            rw [if_neg (by rw [hd]; decide), hwj, t_slice s (j + 1) (j + 2) (by omega) (by omega), hone2, Option.bind_some, catS, if_neg (by rw [toB_size, toB_size]; simp [IntKind.max, IntKind.bits, IntKind.signed]; omega), toB_app]
            simp only [Option.bind_some, Lp.andThen_fin]
            rw [hwj]
            refine ⟨_, rfl, ⟨t ++ [d], j + 2, rfl, by omega, by omega, by simp; omega, ?_⟩, by simp only [Int.toNat_natCast]; omega⟩
            rw [k5, e, List.append_assoc]
          · have hd' : ([125, 58, 124, 123, 92] : List UInt8).contains d = false := by simpa using hd
            have e0 : esc s.data.toList [125, 58, 124, 123, 92] j = ([], false, j + 1) := by unfold esc; rw [hc2]; simp only [hd', Bool.false_eq_true, if_false]
            have e : rdC E' s.data.toList j = ([], false, j + 1) := by unfold rdC; rw [rd_escB hc h3 (by rw [e0]), e0]
            rw [e, List.append_nil] at k5
            rw [if_pos (by rw [hd']; decide)]
            simp only [Option.bind_some, Lp.andThen_rt]
            refine ⟨_, rfl, Or.inl ?_⟩
            rw [k5]
            rw [if_neg (by simp)]
      · rw [if_neg (by simpa using h92)]
        have eb : ((((c.toNat : Int) == 123) || ((c.toNat : Int) == 125)) || ((c.toNat : Int) == 10)) = bdC c := by
          unfold bdC
          rw [show ((c.toNat : Int) == 123) = (c == 123) from u8_eq c 123 (by omega), show ((c.toNat : Int) == 125) = (c == 125) from u8_eq c 125 (by omega), show ((c.toNat : Int) == 10) = (c == 10) from u8_eq c 10 (by omega)]
        rw [eb]
        by_cases hb : bdC c = true
        · rw [if_pos hb]
          simp only [Option.bind_some, Lp.andThen_rt]
          refine ⟨_, rfl, Or.inl ?_⟩
          by_cases hE2 : E'.contains c = true
          · have e : rdC E' s.data.toList j = ([], true, j) := rd_stop hc hE2
            rw [e, List.append_nil] at k5
            rw [k5]
            rw [if_neg (by simp only; rw [hc]; simpa using hE)]
          · have e : rdC E' s.data.toList j = ([], false, j) := rd_bad hc (by simpa using hE2) h92 hb
            rw [e, List.append_nil] at k5
            rw [k5]
            rw [if_neg (by simp)]
        · rw [if_neg hb]
          have hE2 : E'.contains c = false := by
            rw [← Bool.not_eq_true]
            intro h
            rcases h2 c h with h | h
            · exact hE h
            · subst h; exact hb rfl
          have e : rdC E' s.data.toList j = ([c] ++ (rdC E' s.data.toList (j + 1)).1, (rdC E' s.data.toList (j + 1)).2) := rd_byte hc hE2 h92 (by simpa using hb)
          rw [hwi, t_slice s j (j + 1) (by omega) (by omega), hone, Option.bind_some, catS, if_neg (by rw [toB_size, toB_size]; simp [IntKind.max, IntKind.bits, IntKind.signed]; omega), toB_app]
          simp only [Option.bind_some, Lp.andThen_fin]
          rw [hwi]
          refine ⟨_, rfl, ⟨t ++ [c], j + 1, rfl, by omega, by omega, by simp; omega, ?_⟩, by simp only [Int.toNat_natCast]; omega⟩
          rw [k5, e, List.append_assoc])
  have ho2 : whileB (R := ByteArray × Int × Bool) _ ((i : Int), (⟨#[]⟩ : ByteArray)) = _ := ho
  rw [ho2, Option.bind_some]
  rcases hq with rfl | ⟨t, rfl, hn⟩
  · rw [Lp.andThen_rt]
  · rw [Lp.andThen_fin, if_neg hn]
end Go.Proofs.YtfdhiclmjfkflaaDoor.M
