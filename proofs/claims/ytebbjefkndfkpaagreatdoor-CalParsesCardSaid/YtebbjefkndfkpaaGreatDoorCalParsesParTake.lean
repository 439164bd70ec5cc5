/-
  One line taken into a calendar: plain part.
-/
import Derived.Test.YtebbjefkndfkpaaGreatDoorCalParsesParBase
namespace Go.Proofs.YtebbjefkndfkpaaGreatDoor.M
open Go Go.Pu
set_option linter.unusedSimpArgs false
set_option linter.unusedVariables false

theorem take_val (c : cal_Calendar) (l : List UInt8) (before : Int) (hs : small c 40000) (hl : l.length ≤ 20000) : cal_Calendar_take c (tb l) before = some (match lineR c before l with | none => (0, false, c) | some r => (r.1, true, r.2)) := by
  obtain ⟨s1, s2, s3⟩ := hs
  unfold cal_Calendar_take lineR
  obtain ⟨w0, ws, hsp⟩ : ∃ w0 ws, spl 32 l = w0 :: ws := by
    cases h : spl 32 l with
    | nil => exact absurd h (spl_ne 32 l)
    | cons a b => exact ⟨a, b, rfl⟩
  have hs2 : strings_Split (tb l) (⟨#[32]⟩ : ByteArray) = _ := split_val 32 l (by omega)
  rw [hs2, hsp, Option.bind_some]
  have hi0 : idx ((w0 :: ws).map tb) 0 = some (tb w0) := rfl
  rw [hi0, Option.bind_some, kd_val, Option.bind_some]
  have hlen := spl_len 32 l
  have hsm := spl_small 32 l
  rw [hsp] at hlen hsm
  rw [List.length_cons] at hlen
  simp only
  generalize kd w0 = K
  have hbad : ((((decide (K < 0)) || (decide (K < before))) || ((decide (before < 0)) && (K != 0))) || ((before == 0) && (K == 0))) = badK K before := rfl
  rw [hbad]
  cases hb : badK K before with
  | true => rfl
  | false =>
    simp only [Bool.false_eq_true, if_false, Bool.false_or]
    have hsl : sliceL ((w0 :: ws).map tb) (some 1) none = some (ws.map tb) := by
      unfold sliceL bounds
      simp only [Option.getD_some, Option.getD_none]
      rw [if_pos (by simp; omega)]
      simp only [Option.map_some, Int.toNat_natCast, List.take_length]
      rfl
    rw [hsl, Option.bind_some]
    have key : ∀ (ws : List (List UInt8)), (∀ w ∈ ws, w.length ≤ 400000) → ∀ (k : Nat) (acc : List Int), acc.length + ws.length ≤ 400001 → forL (R := Int × Bool × cal_Calendar) (fun (_ : Nat) (x63 : ByteArray) (s48 : List Int) => Option.bind (cal_number x63 9) fun x67 => if (!x67.2) = true then some (.rt (0, false, c)) else Option.bind (appendL 17592186044416 s48 ([x67.1] : List Int)) fun x77 => some (.nx x77)) (ws.map tb) k acc = some (if okN ws = true then .fin (acc ++ ws.map numOf) else .rt (0, false, c)) := by
      intro ws
      induction ws with
      | nil => intro _ k acc _; simp [forL, okN]
      | cons w ws ih =>
        intro h k acc ha
        rw [List.map_cons, forL]
        have hc : cal_number (tb w) 9 = _ := num_code w (by have := h w List.mem_cons_self; omega) 9 (by omega)
        rw [hc, Option.bind_some]
        rw [List.length_cons] at ha
        cases hw : canB 9 w with
        | false =>
          have : okN (w :: ws) = false := by unfold okN; rw [List.all_cons, hw]; rfl
          rw [this]
          rfl
        | true =>
          have : okN (w :: ws) = okN ws := by unfold okN; rw [List.all_cons, hw]; rfl
          rw [this]
          simp only [if_true, Bool.not_true, Bool.false_eq_true, if_false]
          rw [appendL, if_pos (by simp; omega), Option.bind_some]
          simp only
          rw [ih (fun x hx => h x (List.mem_cons_of_mem _ hx)) _ _ (by simp; omega)]
          simp
    rw [rangeB_forL (R := Int × Bool × cal_Calendar) (ws.map tb) (fun (_ : Nat) (x63 : ByteArray) (s48 : List Int) => Option.bind (cal_number x63 9) fun x67 => if (!x67.2) = true then some (.rt (0, false, c)) else Option.bind (appendL 17592186044416 s48 ([x67.1] : List Int)) fun x77 => some (.nx x77)) _ (fun k s x hx => by rw [idx_nat, hx]; rfl), key ws (fun w hw => by have := hsm w (List.mem_cons_of_mem _ hw); omega) 0 [] (by simp; omega), Option.bind_some]
    cases hok : okN ws with
    | false => rfl
    | true =>
      simp only [if_true, Lp.andThen_fin, List.nil_append, Bool.not_true, Bool.false_eq_true, if_false]
      have hnl : (ws.map numOf).length ≤ 20001 := by rw [List.length_map]; omega
      generalize ws.map numOf = n at hnl
      unfold stepC
      cases q0 : ((K == 0) && ((n.length : Int) == 1)) with
      | true =>
        simp only [Bool.and_eq_true, beq_iff_eq] at q0
        have e0 : idx n 0 = _ := idx_getD n 0 (by omega)
        simp only [if_true, e0, Option.bind_some, Lp.andThen_fin, Option.map_some]
      | false =>
      simp only [Bool.false_eq_true, if_false]
      cases q1 : ((K == 1) && ((n.length : Int) == 2)) with
      | true =>
        simp only [Bool.and_eq_true, beq_iff_eq] at q1
        have e0 : idx n 0 = _ := idx_getD n 0 (by omega)
        have e1 : idx n 1 = _ := idx_getD n 1 (by omega)
        simp only [if_true, e0, e1, Option.bind_some, Option.map_some]
        rw [appendL, if_pos (by simp; omega)]
        rfl
      | false =>
      simp only [Bool.false_eq_true, if_false]
      cases q2 : ((K == 2) && ((n.length : Int) == 3)) with
      | true =>
        simp only [Bool.and_eq_true, beq_iff_eq] at q2
        have e0 : idx n 0 = _ := idx_getD n 0 (by omega)
        have e1 : idx n 1 = _ := idx_getD n 1 (by omega)
        have e2 : idx n 2 = _ := idx_getD n 2 (by omega)
        simp only [if_true, e0, e1, e2, Option.bind_some, Option.map_some]
        rw [appendL, if_pos (by simp; omega)]
        rfl
      | false =>
      simp only [Bool.false_eq_true, if_false]
      cases q3 : ((K == 3) && ((Int.tmod (n.length : Int) 2) == 1)) with
      | true =>
        simp only [Bool.and_eq_true, beq_iff_eq] at q3
        have hodd : n.length % 2 = 1 := by
          have := q3.2
          rw [Int.tmod_eq_emod_of_nonneg (by omega)] at this
          omega
        have e0 : idx n 0 = _ := idx_getD n 0 (by omega)
        obtain ⟨q, hq⟩ := day_loop (R := Int × Bool × cal_Calendar) n (n.getD 0 0) (by omega) hodd
        simp only [if_true, e0, Option.bind_some, Option.map_some]
        rw [hq, Option.bind_some, Lp.andThen_fin, appendL, if_pos (by simp; omega)]
        rfl
      | false => rfl
/-- the document's round at a line -/
theorem line_val (k : Nat) (s : Int × cal_Calendar × cal_Calendar) (l : List UInt8) (hs : small s.2.1 40000) (hl : l.length ≤ 20000) (b : Bool) :
    (Option.bind (portref2_lineNumbers (tb l) 9) fun x94 => Option.bind (slices_Index_Lstring_string ([(⟨#[122, 111, 110, 101]⟩ : ByteArray), (⟨#[99, 104, 97, 110, 103, 101]⟩ : ByteArray), (⟨#[115, 104, 105, 102, 116]⟩ : ByteArray), (⟨#[100, 97, 121]⟩ : ByteArray)] : List ByteArray) x94.1) fun x102 => if ((((((!b) || (!x94.2.2)) || (decide (x102 < 0))) || (decide (x102 < s.1))) || ((decide (s.1 < 0)) && (x102 != 0))) || ((x102 == 0) && (decide ((0 : Int) ≤ s.1)))) = true then Option.bind (portref2_ReadCalendarOf_1 (k : Int)) fun x118 => some (.rt (x118.1, x118.2.1, x118.2.2)) else Option.bind (α := Lp _ _) (Option.bind (α := Lp _ _) (if ((x102 == 0) && ((x94.2.1.length : Int) == 1)) = true then Option.bind (idx x94.2.1 0) fun x183 => some (.fin ((⟨(⟨x183, s.2.1.zone.changes⟩ : cal_Zone), s.2.1.week, s.2.1.specials⟩ : cal_Calendar), s.2.2)) else Option.bind (α := Lp _ _) (if ((x102 == 1) && ((x94.2.1.length : Int) == 2)) = true then Option.bind (idx x94.2.1 0) fun x218 => Option.bind (idx x94.2.1 1) fun x223 => Option.bind (appendL 8796093022208 s.2.1.zone.changes ([(⟨x218, x223⟩ : cal_Change)] : List cal_Change)) fun x233 => some (.fin ((⟨(⟨s.2.1.zone.offset, x233⟩ : cal_Zone), s.2.1.week, s.2.1.specials⟩ : cal_Calendar), s.2.2)) else Option.bind (α := Lp _ _) (if ((x102 == 2) && ((x94.2.1.length : Int) == 3)) = true then Option.bind (idx x94.2.1 0) fun x272 => Option.bind (idx x94.2.1 1) fun x277 => Option.bind (idx x94.2.1 2) fun x282 => Option.bind (appendL 5864062014805 s.2.1.week ([(⟨x272, x277, x282⟩ : cal_Shift)] : List cal_Shift)) fun x292 => some (.fin ((⟨s.2.1.zone, x292, s.2.1.specials⟩ : cal_Calendar), s.2.2)) else if ((x102 == 3) && ((Int.tmod (x94.2.1.length : Int) 2) == 1)) = true then Option.bind (idx x94.2.1 0) fun x308 => Option.bind (whileB (fun s332 => if (decide (s332.1 < (x94.2.1.length : Int))) = true then Option.bind (idx x94.2.1 s332.1) fun x349 => Option.bind (idx x94.2.1 (w64 (s332.1 + 1))) fun x354 => Option.bind (appendL 5864062014805 s332.2.shifts ([(⟨0, x349, x354⟩ : cal_Shift)] : List cal_Shift)) fun x364 => some (.nx (w64 (s332.1 + 2), (⟨s332.2.day, x364⟩ : cal_Special))) else some (.bk (s332.1, s332.2))) (1, (⟨x308, ([] : (List cal_Shift))⟩ : cal_Special))) fun o321 => o321.andThen (fun y => some (.rt y)) fun s322 => Option.bind (appendL 4398046511104 s.2.1.specials ([s322.2] : List cal_Special)) fun x392 => some (.fin ((⟨s.2.1.zone, s.2.1.week, x392⟩ : cal_Calendar), s.2.2)) else Option.bind (portref2_ReadCalendarOf_1 (k : Int)) fun x405 => some (.rt (x405.1, x405.2.1, x405.2.2))) fun o248 => o248.andThen (fun y => some (.rt y)) fun s249 => some (.fin (s249.1, s249.2))) fun o194 => o194.andThen (fun y => some (.rt y)) fun s195 => some (.fin (s195.1, s195.2))) fun o162 => o162.andThen (fun y => some (.rt y)) fun s163 => some (.fin (s163.1, s163.2))) fun o140 => o140.andThen (fun y => some (.rt y)) fun s141 => some (.nx (x102, s141.1, s141.2)) : Option (Ctl (Int × cal_Calendar × cal_Calendar) (cal_Calendar × Int × Int)))
      = some (if b = false then .rt ((⟨⟨0, []⟩, [], []⟩ : cal_Calendar), w64 ((k : Int) + 1), (8 : Int)) else match lineR s.2.1 s.1 l with | none => .rt ((⟨⟨0, []⟩, [], []⟩ : cal_Calendar), w64 ((k : Int) + 1), (8 : Int)) | some r => .nx (r.1, r.2, s.2.2)) := by
  obtain ⟨before, c, z⟩ := s
  obtain ⟨s1, s2, s3⟩ := hs
  simp only at s1 s2 s3 ⊢
  have hfail : ∀ (R S : Type) (f : cal_Calendar × Int × Int → R), (Option.bind (portref2_ReadCalendarOf_1 (k : Int)) fun x => some (f (x.1, x.2.1, x.2.2))) = some (f ((⟨⟨0, []⟩, [], []⟩ : cal_Calendar), w64 ((k : Int) + 1), 8)) := fun _ _ _ => rfl
  unfold lineR
  obtain ⟨w0, ws, hsp⟩ : ∃ w0 ws, spl 32 l = w0 :: ws := by
    cases h : spl 32 l with
    | nil => exact absurd h (spl_ne 32 l)
    | cons a b => exact ⟨a, b, rfl⟩
  rw [nums_ref w0 ws l hsp (by omega), hsp, Option.bind_some]
  have hlen := spl_len 32 l
  rw [hsp, List.length_cons] at hlen
  dsimp only
  cases hok : okN ws with
  | false =>
    have hk0 : slices_Index_Lstring_string ([(⟨#[122, 111, 110, 101]⟩ : ByteArray), (⟨#[99, 104, 97, 110, 103, 101]⟩ : ByteArray), (⟨#[115, 104, 105, 102, 116]⟩ : ByteArray), (⟨#[100, 97, 121]⟩ : ByteArray)] : List ByteArray) (⟨#[]⟩ : ByteArray) = some (kd []) := kd_val []
    simp only [Bool.false_eq_true, if_false, hk0, Option.bind_some, Bool.not_false, Bool.or_true, Bool.true_or, if_true]
    cases b <;> rfl
  | true =>
    simp only [if_true, kd_val, Option.bind_some, Bool.not_true, Bool.or_false]
    generalize kd w0 = K
    cases b with
    | false =>
      simp only [Bool.not_false, Bool.true_or, if_true]
      rfl
    | true =>
    simp only [Bool.not_true, Bool.false_or, Bool.true_eq_false, if_false]
    have hbad : ((((decide (K < 0)) || (decide (K < before))) || ((decide (before < 0)) && (K != 0))) || ((K == 0) && (decide ((0 : Int) ≤ before)))) = badK K before := by
      unfold badK
      rw [Bool.eq_iff_iff]
      simp
      omega
    rw [hbad]
    cases hb : badK K before with
    | true => rfl
    | false =>
      simp only [Bool.false_eq_true, if_false]
      have hnl : (ws.map numOf).length ≤ 20001 := by rw [List.length_map]; omega
      generalize ws.map numOf = n at hnl
      unfold stepC
      cases q0 : ((K == 0) && ((n.length : Int) == 1)) with
      | true =>
        simp only [Bool.and_eq_true, beq_iff_eq] at q0
        have e0 : idx n 0 = _ := idx_getD n 0 (by omega)
        simp only [if_true, e0, Option.bind_some, Lp.andThen_fin, Option.map_some]
      | false =>
      simp only [Bool.false_eq_true, if_false]
      cases q1 : ((K == 1) && ((n.length : Int) == 2)) with
      | true =>
        simp only [Bool.and_eq_true, beq_iff_eq] at q1
        have e0 : idx n 0 = _ := idx_getD n 0 (by omega)
        have e1 : idx n 1 = _ := idx_getD n 1 (by omega)
        simp only [if_true, e0, e1, Option.bind_some, Option.map_some]
        rw [appendL, if_pos (by simp; omega)]
        rfl
      | false =>
      simp only [Bool.false_eq_true, if_false]
      cases q2 : ((K == 2) && ((n.length : Int) == 3)) with
      | true =>
        simp only [Bool.and_eq_true, beq_iff_eq] at q2
        have e0 : idx n 0 = _ := idx_getD n 0 (by omega)
        have e1 : idx n 1 = _ := idx_getD n 1 (by omega)
        have e2 : idx n 2 = _ := idx_getD n 2 (by omega)
        simp only [if_true, e0, e1, e2, Option.bind_some, Option.map_some]
        rw [appendL, if_pos (by simp; omega)]
        rfl
      | false =>
      simp only [Bool.false_eq_true, if_false]
      cases q3 : ((K == 3) && ((Int.tmod (n.length : Int) 2) == 1)) with
      | true =>
        simp only [Bool.and_eq_true, beq_iff_eq] at q3
        have hodd : n.length % 2 = 1 := by
          have := q3.2
          rw [Int.tmod_eq_emod_of_nonneg (by omega)] at this
          omega
        have e0 : idx n 0 = _ := idx_getD n 0 (by omega)
        obtain ⟨q, hq⟩ := day_loop (R := cal_Calendar × Int × Int) n (n.getD 0 0) (by omega) hodd
        simp only [if_true, e0, Option.bind_some, Option.map_some]
        rw [hq, Option.bind_some, Lp.andThen_fin, appendL, if_pos (by simp; omega)]
        rfl
      | false => rfl
end Go.Proofs.YtebbjefkndfkpaaGreatDoor.M
