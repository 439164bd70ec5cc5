/-
  Templates: the document's reading of a whole template: plain part.
-/
import Derived.Test.YtfdhiclmjfkflaaDoorTemplateFillsTplParse
namespace Go.Proofs.YtfdhiclmjfkflaaDoor.M
open Go Go.Pu
set_option linter.unusedSimpArgs false
set_option linter.unusedVariables false

theorem nb_val (x : Int) : (Option.bind (if (decide ((97 : Int) ≤ x)) = true then (some (decide (x ≤ 122))) else (some false)) fun s107 => Option.bind (if s107 = true then (some true) else (Option.bind (if (decide ((48 : Int) ≤ x)) = true then (some (decide (x ≤ 57))) else (some false)) fun s111 => some s111)) fun s109 => Option.bind (if s109 = true then (some true) else (some (x == 95))) fun s113 => some s113) = some (know_nameByte x) := by
  unfold know_nameByte know_digit
  cases decide ((97 : Int) ≤ x) <;> cases decide (x ≤ 122) <;> cases decide ((48 : Int) ≤ x) <;> cases decide (x ≤ 57) <;> rfl
theorem nameR_val (s : ByteArray) (hs : s.size ≤ 20000) (i : Nat) (hi : i + 2 ≤ s.size) (R : Type) :
    whileB (R := R) (fun s92 : Int => Option.bind (if ((decide (s92 < (s.size : Int))) && (decide ((w64 ((w64 (s92 - (i : Int))) - 2)) < 20))) = true then (Option.bind (idxS s s92) fun x105 => Option.bind (if (decide ((97 : Int) ≤ (x105.toNat : Int))) = true then (some (decide ((x105.toNat : Int) ≤ 122))) else (some false)) fun s107 => Option.bind (if s107 = true then (some true) else (Option.bind (if (decide ((48 : Int) ≤ (x105.toNat : Int))) = true then (some (decide ((x105.toNat : Int) ≤ 57))) else (some false)) fun s111 => some s111)) fun s109 => Option.bind (if s109 = true then (some true) else (some ((x105.toNat : Int) == 95))) fun s113 => some s113) else (some false)) fun s104 => if s104 = true then some (.nx (w64 (s92 + 1))) else some (.bk s92)) ((i + 2 : Nat) : Int) = some (.fin (nmE s.data.toList 20 (i + 2) : Int)) := by
  obtain ⟨o, ho, rfl⟩ := whileB_spec (R := R) (body := fun s92 : Int => Option.bind (if ((decide (s92 < (s.size : Int))) && (decide ((w64 ((w64 (s92 - (i : Int))) - 2)) < 20))) = true then (Option.bind (idxS s s92) fun x105 => Option.bind (if (decide ((97 : Int) ≤ (x105.toNat : Int))) = true then (some (decide ((x105.toNat : Int) ≤ 122))) else (some false)) fun s107 => Option.bind (if s107 = true then (some true) else (Option.bind (if (decide ((48 : Int) ≤ (x105.toNat : Int))) = true then (some (decide ((x105.toNat : Int) ≤ 57))) else (some false)) fun s111 => some s111)) fun s109 => Option.bind (if s109 = true then (some true) else (some ((x105.toNat : Int) == 95))) fun s113 => some s113) else (some false)) fun s104 => if s104 = true then some (.nx (w64 (s92 + 1))) else some (.bk s92))
    (fun z => ∃ j k : Nat, z = (j : Int) ∧ i + 2 ≤ j ∧ j ≤ s.size ∧ j - (i + 2) + k = 20 ∧ nmE s.data.toList k j = nmE s.data.toList 20 (i + 2)) (fun z => s.size - z.toNat) (fun o => o = .fin (nmE s.data.toList 20 (i + 2) : Int)) (s := ((i + 2 : Nat) : Int)) ⟨i + 2, 20, rfl, Nat.le_refl _, hi, by omega, rfl⟩ (by
      rintro _ ⟨j, k, rfl, j1, j2, j3, j4⟩
      have hw0 : w64 ((j : Int) - (i : Int)) = ((j - i : Nat) : Int) := by rw [w64_id (by omega) (by omega)]; omega
      have hw : w64 (((j - i : Nat) : Int) - 2) = ((j - (i + 2) : Nat) : Int) := by rw [w64_id (by omega) (by omega)]; omega
      have hw2 : w64 ((j : Int) + 1) = ((j + 1 : Nat) : Int) := by rw [w64_id (by omega) (by omega)]; rfl
      rw [hw0, hw, hw2]
      cases k with
      | zero =>
        rw [if_neg (by simp; omega), Option.bind_some, if_neg (by decide)]
        refine ⟨_, rfl, ?_⟩
        rw [← j4]; rfl
      | succ k =>
        rw [nmE] at j4
        by_cases hj : j < s.size
        · have hjl : j < s.data.toList.length := by rw [t_len]; exact hj
          have hc := List.getElem?_eq_getElem hjl
          rw [hc] at j4
          rw [if_pos (by simp; omega), t_idxS, hc, Option.bind_some, nb_val, Option.bind_some]
          simp only at j4
          by_cases hb : know_nameByte ((s.data.toList[j]).toNat : Int) = true
          · rw [if_pos hb] at j4 ⊢
            exact ⟨_, rfl, ⟨j + 1, k, rfl, by omega, by omega, by omega, j4⟩, by simp only [Int.toNat_natCast]; omega⟩
          · rw [if_neg hb] at j4 ⊢
            exact ⟨_, rfl, by rw [← j4]⟩
        · have hn : s.data.toList[j]? = none := List.getElem?_eq_none (by rw [t_len]; omega)
          rw [hn] at j4
          rw [if_neg (by simp; omega), Option.bind_some, if_neg (by decide)]
          exact ⟨_, rfl, by rw [← j4]⟩)
  exact ho
def pcT (t : List UInt8) : portref2_piece := ⟨toB t, ByteArray.empty, 0, ByteArray.empty, ByteArray.empty⟩
def pcF (f : know_field) : portref2_piece := ⟨ByteArray.empty, f.name, if f.kind = 0 then 102 else f.kind, f.one, f.two⟩
def rfl2 (L : List (List UInt8 × know_field)) : List portref2_piece := L.flatMap fun p => [pcT p.1, pcF p.2]
theorem rfl2_len (L : List (List UInt8 × know_field)) : (rfl2 L).length = 2 * L.length := by
  induction L with
  | nil => rfl
  | cons p L ih =>
    unfold rfl2 at ih ⊢
    rw [List.flatMap_cons, List.length_append, ih, List.length_cons, List.length_cons, List.length_cons, List.length_nil]
    omega
/-- the bracket behind a field's content, for the document -/
theorem close_val (s : ByteArray) (hs : s.size ≤ 20000) (k : Nat) (hk : k < s.size) (f : know_field) (h : s.data.toList[k]? = some 125) (out : List portref2_piece) (ho : out.length ≤ 100000) (text : List UInt8) (p : portref2_piece) :
    (Option.bind (if ((w64 ((k : Int) + 1)) == (s.size : Int)) = true then (some true) else (Option.bind (idxS s (w64 ((k : Int) + 1))) fun x189 => some ((x189.toNat : Int) != 125))) fun s188 => if s188 = true then some (.rt (([] : (List portref2_piece)), w64 ((k : Int) + 1), false)) else Option.bind (appendL 1954687338268 out ([(⟨toB text, ByteArray.empty, 0, ByteArray.empty, ByteArray.empty⟩ : portref2_piece), p] : List portref2_piece)) fun x197 => some (.fin (x197, w64 ((k : Int) + 2), (⟨#[]⟩ : ByteArray)))) =
    some (if (fdF s.data.toList k f).2.1 = true then (.fin (out ++ [pcT text, p], ((fdF s.data.toList k f).2.2 : Int), (⟨#[]⟩ : ByteArray))) else (.rt (([] : (List portref2_piece)), ((fdF s.data.toList k f).2.2 : Int), false) : Lp (List portref2_piece × Int × ByteArray) (List portref2_piece × Int × Bool))) := by
  have hw : w64 ((k : Int) + 1) = ((k + 1 : Nat) : Int) := by rw [w64_id (by omega) (by omega)]; rfl
  have hw2 : w64 ((k : Int) + 2) = ((k + 2 : Nat) : Int) := by rw [w64_id (by omega) (by omega)]; rfl
  rw [hw, hw2]
  by_cases h1 : k + 1 = s.size
  · have e : fdF s.data.toList k f = (f, false, k + 1) := by
      unfold fdF
      rw [if_pos h, List.getElem?_eq_none (show s.data.toList.length ≤ k + 1 by rw [t_len]; omega), if_neg (by simp)]
    rw [if_pos (by simp [h1]), Option.bind_some, if_pos rfl, e, if_neg (by simp)]
  · have hl : k + 1 < s.data.toList.length := by rw [t_len]; omega
    have hc := List.getElem?_eq_getElem hl
    generalize s.data.toList[k + 1] = c at hc
    rw [if_neg (by simp; omega), t_idxS, hc, Option.bind_some, Option.bind_some]
    rw [show ((c.toNat : Int) != 125) = !(c == 125) by rw [bne]; congr 1; exact u8_eq c 125 (by omega)]
    by_cases h2 : c = 125
    · subst h2
      have e : fdF s.data.toList k f = (f, true, k + 2) := by
        unfold fdF
        rw [if_pos h, if_pos hc]
      rw [if_neg (by decide), appendL, if_pos (by simp; omega), Option.bind_some, e, if_pos rfl]
      rfl
    · have e : fdF s.data.toList k f = (f, false, k + 1) := by
        unfold fdF
        rw [if_pos h, if_neg (by rw [hc]; simpa using h2)]
      rw [if_pos (by simpa using h2), e, if_neg (by simp)]
theorem lp3 {A B C R : Type} (X : Option (Lp (A × B × C) R)) : (Option.bind X fun o => o.andThen (fun y => some (.rt y)) fun z => some (.fin (z.1, z.2.1, z.2.2))) = X := by
  rcases X with _ | (⟨a, b, c⟩ | r) <;> rfl
/-- what a round of the document's loop comes to -/
def ofPost (s : ByteArray) (i : Nat) (x : Ctl (List portref2_piece × Int × ByteArray) (List portref2_piece × Int × Bool)) : Prop := match x with
          | .nx s' => (∃ (L : List (List UInt8 × know_field)) (i0 i : Nat) (t : List UInt8), s' = (rfl2 L, (i : Int), toB t) ∧ i0 ≤ i ∧ i ≤ s.size ∧ L.length ≤ i0 ∧ t.length ≤ i ∧ prs s 0 = (L ++ (prs s i0).1, (prs s i0).2) ∧ rdT s.data.toList i0 = (t ++ (rdT s.data.toList i).1, (rdT s.data.toList i).2)) ∧ s.size - s'.2.1.toNat < s.size - i
          | .bk s' => False
          | .rt r => (Ctl.rt r : Ctl (List portref2_piece × Int × ByteArray) (List portref2_piece × Int × Bool)) = .rt ([], ((prs s 0).2.2.2 : Int), false) ∧ (prs s 0).2.2.1 = false
theorem of_val (s : ByteArray) (hs : s.size ≤ 20000) : portref2_templateOf s = some (if (prs s 0).2.2.1 = true then (rfl2 (prs s 0).1 ++ [pcT (prs s 0).2.1], 0, true) else ([], ((prs s 0).2.2.2 : Int), false)) := by
  unfold portref2_templateOf
  obtain ⟨o, ho, hq⟩ := whileB_spec (R := List portref2_piece × Int × Bool) (body := fun s12 : List portref2_piece × Int × ByteArray => if (decide (s12.2.1 < (s.size : Int))) = true then Option.bind (α := Lp _ _) (Option.bind (α := Lp _ _) (Option.bind (idxS s s12.2.1) fun x46 => Option.bind (α := Lp _ _) (if ((x46.toNat : Int) == 92) = true then Option.bind (if ((w64 (s12.2.1 + 1)) == (s.size : Int)) = true then (some true) else (Option.bind (idxS s (w64 (s12.2.1 + 1))) fun x60 => Option.bind (if ((x60.toNat : Int) != 123) = true then (some ((x60.toNat : Int) != 92)) else (some false)) fun s62 => some s62)) fun s59 => if s59 = true then some (.rt (([] : (List portref2_piece)), w64 (s12.2.1 + 1), false)) else Option.bind (sliceS s (some (w64 (s12.2.1 + 1))) (some (w64 (s12.2.1 + 2)))) fun x64 => Option.bind (catS s12.2.2 x64) fun x65 => some (.fin (s12.1, w64 (s12.2.1 + 2), x65)) else Option.bind (α := Lp _ _) (if ((x46.toNat : Int) != 123) = true then Option.bind (sliceS s (some s12.2.1) (some (w64 (s12.2.1 + 1)))) fun x78 => Option.bind (catS s12.2.2 x78) fun x79 => some (.fin (s12.1, w64 (s12.2.1 + 1), x79)) else Option.bind (if ((w64 (s12.2.1 + 1)) == (s.size : Int)) = true then (some true) else (Option.bind (idxS s (w64 (s12.2.1 + 1))) fun x83 => some ((x83.toNat : Int) != 123))) fun s82 => if s82 = true then some (.rt (([] : (List portref2_piece)), w64 (s12.2.1 + 1), false)) else Option.bind (whileB (fun s92 => Option.bind (if ((decide (s92 < (s.size : Int))) && (decide ((w64 ((w64 (s92 - s12.2.1)) - 2)) < 20))) = true then (Option.bind (idxS s s92) fun x105 => Option.bind (if (decide ((97 : Int) ≤ (x105.toNat : Int))) = true then (some (decide ((x105.toNat : Int) ≤ 122))) else (some false)) fun s107 => Option.bind (if s107 = true then (some true) else (Option.bind (if (decide ((48 : Int) ≤ (x105.toNat : Int))) = true then (some (decide ((x105.toNat : Int) ≤ 57))) else (some false)) fun s111 => some s111)) fun s109 => Option.bind (if s109 = true then (some true) else (some ((x105.toNat : Int) == 95))) fun s113 => some s113) else (some false)) fun s104 => if s104 = true then some (.nx (w64 (s92 + 1))) else some (.bk s92)) (w64 (s12.2.1 + 2))) fun o85 => o85.andThen (fun y => some (.rt y)) fun s86 => Option.bind (if ((s86 == (w64 (s12.2.1 + 2))) || (s86 == (s.size : Int))) = true then (some true) else (Option.bind (idxS s s86) fun x122 => some (decide ((strings_IndexByte (⟨#[125, 124, 63]⟩ : ByteArray) (x122.toNat : Int)) < 0)))) fun s121 => if s121 = true then some (.rt (([] : (List portref2_piece)), s86, false)) else Option.bind (sliceS s (some (w64 (s12.2.1 + 2))) (some s86)) fun x130 => Option.bind (idxS s s86) fun x131 => Option.bind (α := Lp _ _) (Option.bind (α := Lp _ _) (if ((x131.toNat : Int) == 125) = true then some (.fin (s12.1, s86, (⟨ByteArray.empty, x130, (102 : UInt8), ByteArray.empty, ByteArray.empty⟩ : portref2_piece))) else Option.bind (α := Lp _ _) (if ((x131.toNat : Int) == 124) = true then Option.bind (portref2_fieldString s (w64 (s86 + 1)) (⟨#[125]⟩ : ByteArray)) fun x168 => if (!x168.2.2) = true then some (.rt (([] : (List portref2_piece)), x168.2.1, false)) else some (.fin (s12.1, x168.2.1, (⟨ByteArray.empty, x130, x131, x168.1, ByteArray.empty⟩ : portref2_piece))) else Option.bind (portref2_fieldString s (w64 (s86 + 1)) (⟨#[58]⟩ : ByteArray)) fun x174 => if (!x174.2.2) = true then some (.rt (([] : (List portref2_piece)), x174.2.1, false)) else Option.bind (portref2_fieldString s (w64 (x174.2.1 + 1)) (⟨#[125]⟩ : ByteArray)) fun x179 => if (!x179.2.2) = true then some (.rt (([] : (List portref2_piece)), x179.2.1, false)) else some (.fin (s12.1, x179.2.1, (⟨ByteArray.empty, x130, x131, x174.1, x179.1⟩ : portref2_piece)))) fun o157 => o157.andThen (fun y => some (.rt y)) fun s158 => some (.fin (s158.1, s158.2.1, s158.2.2))) fun o142 => o142.andThen (fun y => some (.rt y)) fun s143 => some (.fin (s143.1, s143.2.1, s143.2.2))) fun o132 => o132.andThen (fun y => some (.rt y)) fun s133 => Option.bind (if ((w64 (s133.2.1 + 1)) == (s.size : Int)) = true then (some true) else (Option.bind (idxS s (w64 (s133.2.1 + 1))) fun x189 => some ((x189.toNat : Int) != 125))) fun s188 => if s188 = true then some (.rt (([] : (List portref2_piece)), w64 (s133.2.1 + 1), false)) else Option.bind (appendL 1954687338268 s133.1 ([(⟨s12.2.2, ByteArray.empty, 0, ByteArray.empty, ByteArray.empty⟩ : portref2_piece), s133.2.2] : List portref2_piece)) fun x197 => some (.fin (x197, w64 (s133.2.1 + 2), (⟨#[]⟩ : ByteArray)))) fun o67 => o67.andThen (fun y => some (.rt y)) fun s68 => some (.fin (s68.1, s68.2.1, s68.2.2))) fun o47 => o47.andThen (fun y => some (.rt y)) fun s48 => some (.fin (s48.1, s48.2.1, s48.2.2))) fun o36 => o36.andThen (fun y => some (.rt y)) fun s37 => some (.fin (s37.1, s37.2.1, s37.2.2))) fun o26 => o26.andThen (fun y => some (.rt y)) fun s27 => some (.nx (s27.1, s27.2.1, s27.2.2)) else some (.bk (s12.1, s12.2.1, s12.2.2)))
    (fun z => ∃ (L : List (List UInt8 × know_field)) (i0 i : Nat) (t : List UInt8), z = (rfl2 L, (i : Int), toB t) ∧ i0 ≤ i ∧ i ≤ s.size ∧ L.length ≤ i0 ∧ t.length ≤ i ∧ prs s 0 = (L ++ (prs s i0).1, (prs s i0).2) ∧ rdT s.data.toList i0 = (t ++ (rdT s.data.toList i).1, (rdT s.data.toList i).2)) (fun z => s.size - z.2.1.toNat)
    (fun o => (o = .rt ([], ((prs s 0).2.2.2 : Int), false) ∧ (prs s 0).2.2.1 = false) ∨ ∃ n, o = .fin (rfl2 (prs s 0).1, n, toB (prs s 0).2.1) ∧ (prs s 0).2.2.1 = true ∧ (prs s 0).1.length ≤ 20000) (s := (([] : (List portref2_piece)), 0, toB []))
    ⟨[], 0, 0, [], rfl, Nat.le_refl _, by omega, Nat.le_refl _, Nat.le_refl _, rfl, by simp⟩ (by
      rintro _ ⟨L, i0, i, t, rfl, j0, j1, j2, j3, j4, j5⟩
      simp only
      have hpr := prs.eq_1 s i0
      by_cases hi : i < s.size
      rotate_left
      · have e : rdT s.data.toList i = ([], true, i) := rd_fin (List.getElem?_eq_none (by rw [t_len]; omega))
        rw [e, List.append_nil] at j5
        rw [j5] at hpr
        simp only at hpr
        rw [if_pos trivial, if_pos (by omega)] at hpr
        rw [if_neg (by simp; omega)]
        refine ⟨_, rfl, Or.inr ⟨(i : Int), ?_, ?_, ?_⟩⟩
        · rw [j4, hpr, List.append_nil]
        · rw [j4, hpr]
        · rw [j4, hpr, List.append_nil]; simp only; omega
      have hil : i < s.data.toList.length := by rw [t_len]; exact hi
      have hc := List.getElem?_eq_getElem hil
      have hone := t_one s i hil
      generalize s.data.toList[i] = c at hc hone
      have hw1 : w64 ((i : Int) + 1) = ((i + 1 : Nat) : Int) := by rw [w64_id (by omega) (by omega)]; rfl
      have hw2 : w64 ((i : Int) + 2) = ((i + 2 : Nat) : Int) := by rw [w64_id (by omega) (by omega)]; rfl
      rw [if_pos (by simp; omega), t_idxS, hc, Option.bind_some, hw1, hw2]
      rw [show ((c.toNat : Int) == 92) = (c == 92) from u8_eq c 92 (by omega), show ((c.toNat : Int) != 123) = !(c == 123) by rw [bne]; congr 1; exact u8_eq c 123 (by omega)]
      by_cases h92 : c = 92
      · subst h92
        rw [if_pos (by decide)]
        by_cases hi2 : i + 1 = s.size
        · have e0 : esc s.data.toList [123, 92] i = ([], false, i + 1) := by unfold esc; rw [List.getElem?_eq_none (by rw [t_len]; omega)]
          have e : rdT s.data.toList i = ([], false, i + 1) := by unfold rdT; rw [rd_escB hc rfl (by rw [e0]), e0]
          rw [e, List.append_nil] at j5
          rw [j5] at hpr
          simp only at hpr
          rw [if_neg (by decide)] at hpr
          rw [if_pos (by simp [hi2])]
          simp only [Option.bind_some, if_true, Lp.andThen_rt]
          refine ⟨_, rfl, Or.inl ⟨?_, ?_⟩⟩
          · rw [j4, hpr]
          · rw [j4, hpr]
        · have hl2 : i + 1 < s.data.toList.length := by rw [t_len]; omega
          have hc2 := List.getElem?_eq_getElem hl2
          have hone2 := t_one s (i + 1) hl2
          generalize s.data.toList[i + 1] = d at hc2 hone2
          have eb : (Option.bind (if ((d.toNat : Int) != 123) = true then (some ((d.toNat : Int) != 92)) else (some false)) fun s62 => some s62) = some (!(([123, 92] : List UInt8).contains d)) := by
            rw [show ((d.toNat : Int) != 123) = !(d == 123) by rw [bne]; congr 1; exact u8_eq d 123 (by omega), show ((d.toNat : Int) != 92) = !(d == 92) by rw [bne]; congr 1; exact u8_eq d 92 (by omega)]
            rw [List.contains_cons, List.contains_cons, List.contains_nil]
            cases (d == 123) <;> cases (d == 92) <;> rfl
          rw [if_neg (by simp; omega), t_idxS, hc2, Option.bind_some, eb, Option.bind_some]
          by_cases hd : ([123, 92] : List UInt8).contains d = true
          · have e0 : esc s.data.toList [123, 92] i = ([d], true, i + 2) := by unfold esc; rw [hc2]; simp only [hd, if_true]
            have e : rdT s.data.toList i = ([d] ++ (rdT s.data.toList (i + 2)).1, (rdT s.data.toList (i + 2)).2) := by
              unfold rdT; rw [rd_escK hc rfl (by rw [e0]), e0]
            rw [if_neg (by rw [hd]; decide), t_slice s (i + 1) (i + 2) (by omega) (by omega), hone2, Option.bind_some, catS, if_neg (by rw [toB_size, toB_size]; simp [IntKind.max, IntKind.bits, IntKind.signed]; omega), toB_app]
            simp only [Option.bind_some, Lp.andThen_fin]
            refine ⟨_, rfl, ⟨L, i0, i + 2, t ++ [d], rfl, by omega, by omega, j2, by simp; omega, j4, ?_⟩, by simp only [Int.toNat_natCast]; omega⟩
            rw [j5, e, List.append_assoc]
          · have hd' : ([123, 92] : List UInt8).contains d = false := by simpa using hd
            have e0 : esc s.data.toList [123, 92] i = ([], false, i + 1) := by unfold esc; rw [hc2]; simp only [hd', Bool.false_eq_true, if_false]
            have e : rdT s.data.toList i = ([], false, i + 1) := by unfold rdT; rw [rd_escB hc rfl (by rw [e0]), e0]
            rw [e, List.append_nil] at j5
            rw [j5] at hpr
            simp only at hpr
            rw [if_neg (by decide)] at hpr
            rw [if_pos (by rw [hd']; decide)]
            simp only [Option.bind_some, Lp.andThen_rt]
            refine ⟨_, rfl, Or.inl ⟨?_, ?_⟩⟩
            · rw [j4, hpr]
            · rw [j4, hpr]
      rw [if_neg (by simpa using h92)]
      by_cases h123 : c = 123
      rotate_left
      · have e : rdT s.data.toList i = ([c] ++ (rdT s.data.toList (i + 1)).1, (rdT s.data.toList (i + 1)).2) := rd_byte hc (by unfold stT; simpa using h123) h92 rfl
        rw [if_pos (by simpa using h123), t_slice s i (i + 1) (by omega) (by omega), hone, Option.bind_some, catS, if_neg (by rw [toB_size, toB_size]; simp [IntKind.max, IntKind.bits, IntKind.signed]; omega), toB_app]
        simp only [Option.bind_some, Lp.andThen_fin]
        refine ⟨_, rfl, ⟨L, i0, i + 1, t ++ [c], rfl, by omega, by omega, j2, by simp; omega, j4, ?_⟩, by simp only [Int.toNat_natCast]; omega⟩
        rw [j5, e, List.append_assoc]
      subst h123
      rw [if_neg (by decide)]
      have e : rdT s.data.toList i = ([], true, i) := rd_stop hc rfl
      rw [e, List.append_nil] at j5
      rw [j5] at hpr
      simp only at hpr
      rw [if_pos trivial, if_neg (by omega)] at hpr
      obtain ⟨_, _, hf1, hf2, hf3⟩ := field_val s hs i hc
      have bad : ∀ n : Nat, (fld s i).2.1 = false → (fld s i).2.2 = n → ((Ctl.rt (([] : (List portref2_piece)), (n : Int), false) : Ctl (List portref2_piece × Int × ByteArray) (List portref2_piece × Int × Bool)) = .rt ([], ((prs s 0).2.2.2 : Int), false) ∧ (prs s 0).2.2.1 = false) := by
        intro n h1 h2
        rw [h1, if_neg (by decide)] at hpr
        rw [j4, hpr, h2]
        exact ⟨rfl, rfl⟩
      have fin : ∀ (k : Nat) (f : know_field) (p : portref2_piece), k < s.size → s.data.toList[k]? = some 125 → fld s i = fdF s.data.toList k f → (f.kind = 0 ∨ f.kind = 124 ∨ f.kind = 63 → p = pcF f) → ∃ x, (Option.bind (Option.bind (if ((w64 ((k : Int) + 1)) == (s.size : Int)) = true then (some true) else (Option.bind (idxS s (w64 ((k : Int) + 1))) fun x189 => some ((x189.toNat : Int) != 125))) fun s188 => if s188 = true then some (.rt (([] : (List portref2_piece)), w64 ((k : Int) + 1), false)) else Option.bind (appendL 1954687338268 (rfl2 L) ([(⟨toB t, ByteArray.empty, 0, ByteArray.empty, ByteArray.empty⟩ : portref2_piece), p] : List portref2_piece)) fun x197 => some (.fin (x197, w64 ((k : Int) + 2), (⟨#[]⟩ : ByteArray)))) fun o : Lp (List portref2_piece × Int × ByteArray) (List portref2_piece × Int × Bool) => o.andThen (fun y => some (Ctl.rt y)) fun s27 => some (.nx (s27.1, s27.2.1, s27.2.2))) = some x ∧ ofPost s i x := by
        intro k f p hk h1 h2 hp
        rw [close_val s hs k hk f h1 (rfl2 L) (by rw [rfl2_len]; omega) t p, ← h2, Option.bind_some]
        cases hw : (fld s i).2.1 with
        | false =>
          rw [if_neg (by decide), Lp.andThen_rt]
          exact ⟨_, rfl, bad _ hw rfl⟩
        | true =>
          rw [if_pos rfl, Lp.andThen_fin]
          have hg := (hf3 hw).2.2
          have hg1 := (hf3 hw).1
          have hff : (fld s i).1 = f := by rw [h2, fdF_fst]
          rw [hw, if_pos rfl, dif_pos ⟨by omega, hf2⟩] at hpr
          refine ⟨_, rfl, ⟨L ++ [(t, (fld s i).1)], (fld s i).2.2, (fld s i).2.2, [], ?_, Nat.le_refl _, hf2, by simp; omega, by simp, ?_, by simp⟩, by simp only [Int.toNat_natCast]; omega⟩
          · rw [hp (by rw [hg1, hff] at hg; exact hg), Prod.mk.injEq, hff]
            refine ⟨?_, by simp; rfl⟩
            unfold rfl2
            rw [List.flatMap_append, List.flatMap_cons, List.flatMap_nil, List.append_nil]
          · rw [j4, hpr]; simp
      simp only [lp3]
      have dead : ∀ n : Nat, (fld s i).2.1 = false → (fld s i).2.2 = n → ∃ x, (Option.bind (some (Lp.rt (([] : (List portref2_piece)), (n : Int), false))) fun o : Lp (List portref2_piece × Int × ByteArray) (List portref2_piece × Int × Bool) => o.andThen (fun y => some (Ctl.rt y)) fun s27 => some (.nx (s27.1, s27.2.1, s27.2.2))) = some x ∧ ofPost s i x := fun n h1 h2 => ⟨_, rfl, bad n h1 h2⟩
      refine Exists.imp (p := fun x => _ = some x ∧ ofPost s i x) (fun x hx => ⟨hx.1, ?_⟩) ?_
      · have hm := hx.2
        cases x with
        | nx s' => exact hm
        | bk s' => exact hm.elim
        | rt r =>
          have hm2 : (Ctl.rt r : Ctl (List portref2_piece × Int × ByteArray) (List portref2_piece × Int × Bool)) = .rt ([], ((prs s 0).2.2.2 : Int), false) ∧ (prs s 0).2.2.1 = false := hm
          exact Or.inl ⟨by rw [Ctl.rt.inj hm2.1], hm2.2⟩
      have hfl : fld s i = fld s i := rfl
      conv at hfl => rhs; unfold fld
      by_cases hi1 : i + 1 = s.size
      · rw [if_neg (show ¬ s.data.toList[i + 1]? = some 123 by rw [List.getElem?_eq_none (show s.data.toList.length ≤ i + 1 by rw [t_len]; omega)]; simp)] at hfl
        rw [if_pos (by simp [hi1]), Option.bind_some, if_pos rfl]
        exact dead _ (by rw [hfl]) (by rw [hfl])
      have hl1 : i + 1 < s.data.toList.length := by rw [t_len]; omega
      have hc1 := List.getElem?_eq_getElem hl1
      generalize s.data.toList[i + 1] = d at hc1
      rw [if_neg (show ¬ ((((i + 1 : Nat) : Int) == (s.size : Int)) = true) by simp; omega), t_idxS, hc1, Option.bind_some, Option.bind_some]
      rw [show ((d.toNat : Int) != 123) = !(d == 123) by rw [bne]; congr 1; exact u8_eq d 123 (by omega)]
      by_cases hd : d = 123
      rotate_left
      · rw [hc1, if_neg (by simpa using hd)] at hfl
        rw [if_pos (by simpa using hd)]
        exact dead _ (by rw [hfl]) (by rw [hfl])
      subst hd
      rw [if_pos hc1] at hfl
      rw [if_neg (by decide)]
      have hn := nameR_val s hs i (by rw [t_len] at hl1; omega) (List portref2_piece × Int × Bool)
      obtain ⟨b1, b2⟩ := nmE_bound s.data.toList 20 (i + 2) (by omega)
      rw [t_len] at b2
      generalize nmE s.data.toList 20 (i + 2) = k at hn b1 b2 hfl
      rw [hn, Option.bind_some, Lp.andThen_fin]
      by_cases hk0 : k = i + 2
      · rw [if_pos hk0] at hfl
        rw [if_pos (show (((k : Int) == ((i + 2 : Nat) : Int)) || ((k : Int) == (s.size : Int))) = true by simp [hk0]), Option.bind_some, if_pos rfl]
        exact dead _ (by rw [hfl]) (by rw [hfl, hk0])
      rw [if_neg hk0] at hfl
      by_cases hke : k = s.size
      · rw [List.getElem?_eq_none (show s.data.toList.length ≤ k by rw [t_len]; omega)] at hfl
        simp only at hfl
        rw [if_pos (show (((k : Int) == ((i + 2 : Nat) : Int)) || ((k : Int) == (s.size : Int))) = true by simp [hke]), Option.bind_some, if_pos rfl]
        exact dead _ (by rw [hfl]) (by rw [hfl])
      have hkl : k < s.data.toList.length := by rw [t_len]; omega
      have hck := List.getElem?_eq_getElem hkl
      generalize s.data.toList[k] = c at hck
      have hiv : decide (strings_IndexByte (⟨#[125, 124, 63]⟩ : ByteArray) (c.toNat : Int) < 0) = !(([125, 124, 63] : List UInt8).contains c) := ib_val [125, 124, 63] c
      rw [if_neg (show ¬ ((((k : Int) == ((i + 2 : Nat) : Int)) || ((k : Int) == (s.size : Int))) = true) by simp; omega), t_idxS, hck, Option.bind_some, hiv, Option.bind_some]
      rw [hck] at hfl
      simp only at hfl
      by_cases hcc : ([125, 124, 63] : List UInt8).contains c = true
      rotate_left
      · have hcc' : ¬ (c = 125 ∨ c = 124 ∨ c = 63) := by simpa using hcc
        rw [if_neg (fun h => hcc' (Or.inr (Or.inl h))), if_neg (fun h => hcc' (Or.inr (Or.inr h)))] at hfl
        have : fdF s.data.toList k ⟨s.extract (i + 2) k, 0, ByteArray.empty, ByteArray.empty⟩ = (⟨s.extract (i + 2) k, 0, ByteArray.empty, ByteArray.empty⟩, false, k) := by
          unfold fdF
          rw [if_neg (by rw [hck]; intro h; exact hcc' (Or.inl (Option.some.inj h)))]
        rw [this] at hfl
        rw [if_pos (by simpa using hcc)]
        exact dead _ (by rw [hfl]) (by rw [hfl])
      rw [if_neg (by rw [hcc]; decide), t_slice s (i + 2) k b1 b2, Option.bind_some, Option.bind_some]
      rw [show ((c.toNat : Int) == 125) = (c == 125) from u8_eq c 125 (by omega), show ((c.toNat : Int) == 124) = (c == 124) from u8_eq c 124 (by omega)]
      have hw : w64 ((k : Int) + 1) = ((k + 1 : Nat) : Int) := by rw [w64_id (by omega) (by omega)]; rfl
      by_cases h125 : c = 125
      · subst h125
        rw [if_neg (by decide), if_neg (by decide)] at hfl
        rw [if_pos (by decide)]
        simp only [Option.bind_some, Lp.andThen_fin]
        exact fin k _ _ (by omega) hck hfl (fun _ => rfl)
      rw [if_neg (by simpa using h125), hw]
      by_cases h124 : c = 124
      · subst h124
        rw [if_pos rfl] at hfl
        rw [if_pos (by decide)]
        have hfs : portref2_fieldString s ((k + 1 : Nat) : Int) (⟨#[125]⟩ : ByteArray) = _ := fs_val s hs [125] [125] (fun _ h => h) (fun _ h => Or.inl h) (by decide) (k + 1) (by omega)
        rw [hfs, Option.bind_some]
        have hbd := (choice_val s hs [125] (by decide) (k + 1) (by omega)).2.2
        generalize rdC [125] s.data.toList (k + 1) = q at hfl hbd
        obtain ⟨qt, qw, qk⟩ := q
        simp only at hfl hbd ⊢
        by_cases hq : qw = true ∧ (s.data.toList[qk]?.any fun c => ([125] : List UInt8).contains c) = true
        · obtain ⟨rfl, hq2⟩ := hq
          have hq3 : s.data.toList[qk]? = some 125 := by
            cases hx : s.data.toList[qk]? with
            | none => rw [hx] at hq2; cases hq2
            | some x => rw [hx] at hq2; have : x = 125 := by simpa using hq2
                        rw [this]
          rw [if_pos (show (true = true) ∧ (s.data.toList[qk]?.any fun c => ([125] : List UInt8).contains c) = true from ⟨rfl, hq2⟩)]
          simp only [Bool.not_true, Bool.false_eq_true, if_false, Option.bind_some, Lp.andThen_fin]
          rw [if_pos rfl] at hfl
          exact fin qk _ _ (by have := (List.getElem?_eq_some_iff.1 hq3).1; rw [t_len] at this; exact this) hq3 hfl (fun _ => rfl)
        · rw [if_neg hq]
          simp only [Bool.not_false, if_true, Option.bind_some, Lp.andThen_rt]
          refine dead _ ?_ ?_
          · rw [hfl]; split
            · rename_i h1
              unfold fdF
              rw [if_neg (fun h2 => hq ⟨h1, by rw [h2]; rfl⟩)]
            · rfl
          · rw [hfl]; split
            · rename_i h1
              unfold fdF
              rw [if_neg (fun h2 => hq ⟨h1, by rw [h2]; rfl⟩)]
            · rfl
      have h63 : c = 63 := by
        have : c = 125 ∨ c = 124 ∨ c = 63 := by simpa using hcc
        rcases this with h | h | h
        · exact absurd h h125
        · exact absurd h h124
        · exact h
      subst h63
      rw [if_neg (by decide), if_pos rfl] at hfl
      rw [if_neg (by decide)]
      have hE1 : ∀ c : UInt8, ([58] : List UInt8).contains c = true → ([125, 58] : List UInt8).contains c = true := by
        intro c h
        have : c = 58 := by simpa using h
        subst this; decide
      have hE2 : ∀ c : UInt8, ([125, 58] : List UInt8).contains c = true → ([58] : List UInt8).contains c = true ∨ c = 125 := by
        intro c h
        have : c = 125 ∨ c = 58 := by simpa using h
        rcases this with rfl | rfl
        · exact Or.inr rfl
        · exact Or.inl (by decide)
      have hfs : portref2_fieldString s ((k + 1 : Nat) : Int) (⟨#[58]⟩ : ByteArray) = _ := fs_val s hs [58] [125, 58] hE1 hE2 (by decide) (k + 1) (by omega)
      rw [hfs, Option.bind_some]
      have hbd := (choice_val s hs [125, 58] (by decide) (k + 1) (by omega)).2.2
      generalize rdC [125, 58] s.data.toList (k + 1) = q at hfl hbd
      obtain ⟨qt, qw, qk⟩ := q
      simp only at hfl hbd ⊢
      by_cases hq : qw = true ∧ (s.data.toList[qk]?.any fun c => ([58] : List UInt8).contains c) = true
      rotate_left
      · rw [if_neg hq]
        simp only [Bool.not_false, if_true, Option.bind_some, Lp.andThen_rt]
        rw [if_neg (fun h => hq ⟨h.1, by rw [h.2]; rfl⟩)] at hfl
        exact dead _ (by rw [hfl]) (by rw [hfl])
      obtain ⟨rfl, hq2⟩ := hq
      have hq3 : s.data.toList[qk]? = some 58 := by
        cases hx : s.data.toList[qk]? with
        | none => rw [hx] at hq2; cases hq2
        | some x => rw [hx] at hq2; have : x = 58 := by simpa using hq2
                    rw [this]
      have hqk : qk < s.size := by have := (List.getElem?_eq_some_iff.1 hq3).1; rw [t_len] at this; exact this
      rw [if_pos (show (true = true) ∧ (s.data.toList[qk]?.any fun c => ([58] : List UInt8).contains c) = true from ⟨rfl, hq2⟩)]
      simp only [Bool.not_true, Bool.false_eq_true, if_false]
      rw [if_pos ⟨rfl, hq3⟩] at hfl
      have hwq : w64 ((qk : Int) + 1) = ((qk + 1 : Nat) : Int) := by rw [w64_id (by omega) (by omega)]; rfl
      rw [hwq]
      have hfs2 : portref2_fieldString s ((qk + 1 : Nat) : Int) (⟨#[125]⟩ : ByteArray) = _ := fs_val s hs [125] [125] (fun _ h => h) (fun _ h => Or.inl h) (by decide) (qk + 1) (by omega)
      rw [hfs2, Option.bind_some]
      have hbd2 := (choice_val s hs [125] (by decide) (qk + 1) (by omega)).2.2
      generalize rdC [125] s.data.toList (qk + 1) = q2 at hfl hbd2
      obtain ⟨rt, rw_, rk⟩ := q2
      simp only at hfl hbd2 ⊢
      by_cases hr : rw_ = true ∧ (s.data.toList[rk]?.any fun c => ([125] : List UInt8).contains c) = true
      · obtain ⟨rfl, hr2⟩ := hr
        have hr3 : s.data.toList[rk]? = some 125 := by
          cases hx : s.data.toList[rk]? with
          | none => rw [hx] at hr2; cases hr2
          | some x => rw [hx] at hr2; have : x = 125 := by simpa using hr2
                      rw [this]
        rw [if_pos (show (true = true) ∧ (s.data.toList[rk]?.any fun c => ([125] : List UInt8).contains c) = true from ⟨rfl, hr2⟩)]
        simp only [Bool.not_true, Bool.false_eq_true, if_false, Option.bind_some, Lp.andThen_fin]
        rw [if_pos rfl] at hfl
        exact fin rk _ _ (by have := (List.getElem?_eq_some_iff.1 hr3).1; rw [t_len] at this; exact this) hr3 hfl (fun _ => rfl)
      · rw [if_neg hr]
        simp only [Bool.not_false, if_true, Option.bind_some, Lp.andThen_rt]
        refine dead _ ?_ ?_
        · rw [hfl]; split
          · rename_i h1
            unfold fdF
            rw [if_neg (fun h2 => hr ⟨h1, by rw [h2]; rfl⟩)]
          · rfl
        · rw [hfl]; split
          · rename_i h1
            unfold fdF
            rw [if_neg (fun h2 => hr ⟨h1, by rw [h2]; rfl⟩)]
          · rfl)
  have ho2 : whileB (R := List portref2_piece × Int × Bool) _ (([] : (List portref2_piece)), (0 : Int), (⟨#[]⟩ : ByteArray)) = _ := ho
  rw [ho2, Option.bind_some]
  rcases hq with ⟨rfl, h1⟩ | ⟨n, rfl, h1, h2⟩
  · rw [Lp.andThen_rt, if_neg (by rw [h1]; decide)]
  · rw [Lp.andThen_fin, if_pos h1]
    simp only
    rw [appendL, if_pos (by rw [rfl2_len]; simp; omega), Option.bind_some]
    rfl
end Go.Proofs.YtfdhiclmjfkflaaDoor.M
