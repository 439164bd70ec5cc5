/-
  ReadCalendar and its document agree: plain part.
-/
import Derived.Test.YtebbjefkndfkpaaGreatDoorCalParsesParTake
namespace Go.Proofs.YtebbjefkndfkpaaGreatDoor.M
open Go Go.Pu
set_option linter.unusedSimpArgs false
set_option linter.unusedVariables false

abbrev c00 : cal_Calendar := ⟨⟨0, []⟩, [], []⟩
/-- what the lines make -/
def goL (t : List UInt8) : List (List UInt8) → Nat → Int → cal_Calendar → Sum Nat (Int × cal_Calendar)
  | [], k, b, c => if t = [] ∧ k ≠ 0 then .inr (b, c) else .inl (k + 1)
  | u :: us, k, b, c => match lineR c b u with
    | none => .inl (k + 1)
    | some r => goL t us (k + 1) r.1 r.2
def flt (us : List (List UInt8)) (t : List UInt8) : List UInt8 := (us.map (· ++ [10])).flatten ++ t
theorem line_small {c : cal_Calendar} {b : Int} {u : List UInt8} {r : Int × cal_Calendar} {k : Nat} (h : small c k) (he : lineR c b u = some r) : small r.2 (k + 1) := by
  unfold lineR at he
  split at he
  · cases he
  · split at he
    · cases he
    · obtain ⟨c', h1, rfl⟩ := Option.map_eq_some_iff.1 he
      exact step_small h h1
theorem small_le {c : cal_Calendar} {k m : Nat} (h : small c k) (hk : k ≤ m) : small c m := ⟨Nat.le_trans h.1 hk, Nat.le_trans h.2.1 hk, Nat.le_trans h.2.2 hk⟩
theorem code_loop (t : List UInt8) (ht : noFeed t) (z : cal_Calendar) : ∀ (us : List (List UInt8)) (k : Nat) (b : Int) (c : cal_Calendar), (∀ u ∈ us, noFeed u) → (flt us t).length + k ≤ 20000 → small c k →
    ∃ q, whileB (R := cal_Calendar × Int × Int) (fun s36 : ByteArray × Int × Int × cal_Calendar × cal_Calendar => if ((!(strEq s36.1 (⟨#[]⟩ : ByteArray))) || (s36.2.2.1 == 0)) = true then Option.bind (strings_Cut s36.1 (⟨#[10]⟩ : ByteArray)) fun x62 => Option.bind (cal_Calendar_take s36.2.2.2.1 x62.1 s36.2.1) fun x66 => if ((!x66.2.1) || (!x62.2.2)) = true then some (.rt (c00, w64 (s36.2.2.1 + 1), 8)) else some (.nx (x62.2.1, x66.1, w64 (s36.2.2.1 + 1), x66.2.2, s36.2.2.2.2)) else some (.bk (s36.1, s36.2.1, s36.2.2.1, s36.2.2.2.1, s36.2.2.2.2))) (tb (flt us t), b, (k : Int), c, z)
      = some (match goL t us k b c with | .inl m => .rt (c00, (m : Int), 8) | .inr r => .fin (tb [], r.1, q, r.2, z))
  | [], k, b, c, _, hl, hc => by
    have hf : flt [] t = t := rfl
    rw [hf] at hl ⊢
    rw [whileB_eq]
    have e0 : strEq (tb t) (⟨#[]⟩ : ByteArray) = decide (t = []) := tb_eq t []
    have ek : (((k : Nat) : Int) == 0) = decide (k = 0) := by rw [Bool.eq_iff_iff]; simp
    simp only [e0, ek, goL]
    by_cases h : t = [] ∧ k ≠ 0
    · obtain ⟨rfl, h2⟩ := h
      refine ⟨(k : Int), ?_⟩
      rw [if_pos (c := ([] : List UInt8) = [] ∧ k ≠ 0) ⟨rfl, h2⟩]
      simp [h2]
    · refine ⟨0, ?_⟩
      rw [if_neg (c := t = [] ∧ k ≠ 0) h]
      have hcond : ((!(decide (t = []))) || decide (k = 0)) = true := by
        by_cases q1 : t = []
        · have : k = 0 := by
            rcases Nat.eq_zero_or_pos k with e | e
            · exact e
            · exact absurd ⟨q1, by omega⟩ h
          simp [this]
        · simp [q1]
      have hcut : strings_Cut (tb t) (⟨#[10]⟩ : ByteArray) = some (tb (cutA 10 t), tb (cutB 10 t), decide (10 ∈ t)) := cut_val 10 t (by omega)
      have hno : (10 : UInt8) ∉ t := fun h => ht 10 h rfl
      rw [if_pos hcond, hcut, Option.bind_some, take_val c (cutA 10 t) b (small_le hc (by omega)) (by have := cutA_len 10 t; omega), Option.bind_some, decide_eq_false hno]
      have hw : w64 ((k : Int) + 1) = ((k + 1 : Nat) : Int) := by rw [w64_id (by omega) (by omega)]; rfl
      simp only [Bool.not_false, Bool.or_true, if_true, Option.bind_some, hw]
  | u :: us, k, b, c, hu, hl, hc => by
    have hf : flt (u :: us) t = u ++ 10 :: flt us t := by simp [flt]
    rw [hf, List.length_append, List.length_cons] at hl
    rw [hf, whileB_eq]
    have e0 : strEq (tb (u ++ 10 :: flt us t)) (⟨#[]⟩ : ByteArray) = decide (u ++ 10 :: flt us t = []) := tb_eq _ []
    have hcond : (!(decide (u ++ 10 :: flt us t = [])) || (((k : Nat) : Int) == 0)) = true := by simp
    have hcut : strings_Cut (tb (u ++ 10 :: flt us t)) (⟨#[10]⟩ : ByteArray) = some (tb (cutA 10 (u ++ 10 :: flt us t)), tb (cutB 10 (u ++ 10 :: flt us t)), decide (10 ∈ u ++ 10 :: flt us t)) := cut_val 10 _ (by rw [List.length_append, List.length_cons]; omega)
    have hno : (10 : UInt8) ∉ u := fun h => hu u List.mem_cons_self 10 h rfl
    obtain ⟨c1, c2⟩ := cut_at 10 u (flt us t) hno
    have hw : w64 ((k : Int) + 1) = ((k + 1 : Nat) : Int) := by rw [w64_id (by omega) (by omega)]; rfl
    rw [c1, c2, decide_eq_true (by simp)] at hcut
    simp only [e0]
    rw [if_pos hcond, hcut, Option.bind_some, take_val c u b (small_le hc (by omega)) (by omega), Option.bind_some, goL]
    cases hr : lineR c b u with
    | none =>
      refine ⟨0, ?_⟩
      simp only [Bool.not_false, Bool.true_or, if_true, Option.bind_some, hw]
    | some r =>
      simp only [Bool.not_true, Bool.or_self, Bool.false_eq_true, if_false, Option.bind_some, hw]
      exact code_loop t ht z us (k + 1) r.1 r.2 (fun x hx => hu x (List.mem_cons_of_mem _ hx)) (by omega) (line_small hc hr)
theorem ref_loop (n : Nat) (hn : n ≤ 30000) (t : List UInt8) (ht : noFeed t) (z : cal_Calendar) (B : Nat → ByteArray → Int × cal_Calendar × cal_Calendar → Option (Ctl (Int × cal_Calendar × cal_Calendar) (cal_Calendar × Int × Int)))
    (hB0 : ∀ k s, k + 1 = n → k ≠ 0 → B k (tb []) s = some (.bk (s.1, s.2.1, s.2.2)))
    (hB1 : ∀ k s l, (l ≠ [] ∨ k + 1 ≠ n ∨ k = 0) → noFeed l → l.length ≤ 20000 → small s.2.1 40000 → k ≤ 40000 → B k (tb l) s = some (.rt (c00, ((k + 1 : Nat) : Int), 8)))
    (hB2 : ∀ k s u, noFeed u → u.length ≤ 20000 → small s.2.1 40000 → k ≤ 40000 → B k (tb (u ++ [10])) s = some (match lineR s.2.1 s.1 u with | none => .rt (c00, ((k + 1 : Nat) : Int), (8 : Int)) | some r => .nx (r.1, r.2, s.2.2))) :
    ∀ (us : List (List UInt8)) (k : Nat) (b : Int) (c : cal_Calendar), k + us.length + 1 = n → (∀ u ∈ us, noFeed u) → (flt us t).length + k ≤ 20000 → small c k →
    forL (R := cal_Calendar × Int × Int) B (us.map (fun u => tb (u ++ [10])) ++ [tb t]) k (b, c, z) = some (match goL t us k b c with | .inl m => .rt (c00, (m : Int), 8) | .inr r => .fin (r.1, r.2, z))
  | [], k, b, c, hk, _, hl, hc => by
    have hf : flt [] t = t := rfl
    rw [hf] at hl
    simp only [List.map_nil, List.nil_append, goL]
    simp only [List.length_nil, Nat.add_zero] at hk
    rw [forL]
    by_cases h : t = [] ∧ k ≠ 0
    · obtain ⟨rfl, h2⟩ := h
      rw [if_pos (c := ([] : List UInt8) = [] ∧ k ≠ 0) ⟨rfl, h2⟩, hB0 k _ hk h2]
    · rw [if_neg (c := t = [] ∧ k ≠ 0) h, hB1 k _ t (by
        by_cases q : t = []
        · right; right
          rcases Nat.eq_zero_or_pos k with e | e
          · exact e
          · exact absurd ⟨q, by omega⟩ h
        · exact .inl q) ht (by omega) (small_le hc (by omega)) (by omega)]
  | u :: us, k, b, c, hk, hu, hl, hc => by
    have hf : flt (u :: us) t = u ++ 10 :: flt us t := by simp [flt]
    rw [hf, List.length_append, List.length_cons] at hl
    rw [List.map_cons, List.cons_append, forL, hB2 k _ u (hu u List.mem_cons_self) (by omega) (small_le hc (by omega)) (by omega), goL]
    simp only
    cases hr : lineR c b u with
    | none => rfl
    | some r =>
      simp only
      exact ref_loop n hn t ht z B hB0 hB1 hB2 us (k + 1) r.1 r.2 (by rw [List.length_cons] at hk; omega) (fun x hx => hu x (List.mem_cons_of_mem _ hx)) (by omega) (line_small hc hr)

theorem equal_ch (l : List cal_Change) : slices_Equal_Lcal_Change_cal_Change l l = some true := by
  unfold slices_Equal_Lcal_Change_cal_Change
  simp only [bne_self_eq_false, Bool.false_eq_true, if_false]
  obtain ⟨t, h, _⟩ := rangeB_inv (R := Bool) (b := fun k9 (_ : Unit) => Option.bind (idx l (k9 : Int)) fun x29 => Option.bind (idx l (k9 : Int)) fun x34 => if (!(x29.at_ == x34.at_ && (x29.offset == x34.offset))) = true then some (.rt false) else some (.nx ())) l.length (fun _ _ => True) (s := ()) trivial
    (fun k s hk _ => by rw [idx_lt _ _ hk]; simp)
  rw [h]
  rfl
theorem equal_sh (l : List cal_Shift) : slices_Equal_Lcal_Shift_cal_Shift l l = some true := by
  unfold slices_Equal_Lcal_Shift_cal_Shift
  simp only [bne_self_eq_false, Bool.false_eq_true, if_false]
  obtain ⟨t, h, _⟩ := rangeB_inv (R := Bool) (b := fun k9 (_ : Unit) => Option.bind (idx l (k9 : Int)) fun x29 => Option.bind (idx l (k9 : Int)) fun x34 => if (!(x29.day == x34.day && (x29.from_ == x34.from_ && (x29.to_ == x34.to_)))) = true then some (.rt false) else some (.nx ())) l.length (fun _ _ => True) (s := ()) trivial
    (fun k s hk _ => by rw [idx_lt _ _ hk]; simp)
  rw [h]
  rfl
theorem equal_sp (l : List cal_Special) : slices_EqualFunc_Lcal_Special_Lcal_Special_cal_Special_cal_Special l l (fun y z => portref2_Alike_1 y z) = some true := by
  unfold slices_EqualFunc_Lcal_Special_Lcal_Special_cal_Special_cal_Special
  simp only [bne_self_eq_false, Bool.false_eq_true, if_false]
  obtain ⟨t, h, _⟩ := rangeB_inv (R := Bool) (b := fun k9 (_ : Unit) => Option.bind (idx l (k9 : Int)) fun x29 => Option.bind (idx l (k9 : Int)) fun x47 => Option.bind (portref2_Alike_1 x29 x47) fun x71 => if (!x71) = true then some (.rt false) else some (.nx ())) l.length (fun _ _ => True) (s := ()) trivial
    (fun k s hk _ => by
      rw [idx_lt _ _ hk]
      simp [portref2_Alike_1, equal_sh])
  rw [h]
  rfl
theorem alike_self (c : cal_Calendar) : portref2_Alike c c = some true := by
  unfold portref2_Alike
  simp [equal_ch, equal_sh, equal_sp]

theorem read_eq (s : ByteArray) : ∃ r, cal_ReadCalendar s = some r ∧ portref2_ReadCalendarOf s = some r := by
  unfold cal_ReadCalendar portref2_ReadCalendarOf
  by_cases hs : s.size ≤ 20000
  rotate_left
  · rw [if_pos (by simp; omega), if_pos (by simp; omega)]
    exact ⟨_, rfl, rfl⟩
  rw [if_neg (by simp; omega), if_neg (by simp; omega)]
  have hl : s.data.toList.length ≤ 20000 := hs
  rw [← tb_of s]
  generalize s.data.toList = l at hl
  obtain ⟨ls, t, h1, h2, h3, h4⟩ := cut_spec l
  obtain ⟨us, rfl, hus⟩ : ∃ us : List (List UInt8), ls = us.map (· ++ [10]) ∧ ∀ u ∈ us, noFeed u := by
    clear h1 h4
    induction ls with
    | nil => exact ⟨[], rfl, by simp⟩
    | cons x ls ih =>
      obtain ⟨us, e, hus⟩ := ih fun y hy => h3 y (List.mem_cons_of_mem _ hy)
      obtain ⟨u, hu, rfl⟩ := h3 x List.mem_cons_self
      refine ⟨u :: us, by rw [e]; rfl, fun y hy => ?_⟩
      rcases List.mem_cons.1 hy with rfl | hy
      · exact hu
      · exact hus y hy
  have hfl : l = flt us t := h4.symm
  have hsa : strings_SplitAfter (tb l) (⟨#[10]⟩ : ByteArray) = _ := after_val l (by omega)
  rw [hsa, h1, Option.bind_some]
  have hul : us.length + t.length ≤ l.length := by
    rw [hfl]
    unfold flt
    rw [List.length_append]
    have : ∀ us : List (List UInt8), us.length ≤ ((us.map (· ++ [10])).flatten).length := by
      intro us
      induction us with
      | nil => simp
      | cons u us ih => simp only [List.map_cons, List.flatten_cons, List.length_append, List.length_cons]; omega
    have := this us
    omega
  obtain ⟨q, hcode⟩ := code_loop t h2 c00 us 0 (-1) c00 hus (by rw [← hfl]; omega) ⟨by simp, by simp, by simp⟩
  rw [← hfl] at hcode
  have hcode' := hcode
  rw [show (((0 : Nat) : Int)) = 0 from rfl] at hcode'
  rw [hcode', Option.bind_some]
  have hmap : (us.map (· ++ [10]) ++ [t]).map tb = us.map (fun u => tb (u ++ [10])) ++ [tb t] := by simp
  rw [hmap]
  generalize hP : us.map (fun u => tb (u ++ [10])) ++ [tb t] = P
  have hPl : P.length = us.length + 1 := by rw [← hP]; simp
  have hwn : w64 ((P.length : Int) - 1) = ((us.length : Nat) : Int) := by rw [hPl, w64_id (by omega) (by omega)]; simp
  rw [rangeB_forL (R := cal_Calendar × Int × Int) P (fun (k32 : Nat) (x75 : ByteArray) (s50 : Int × cal_Calendar × cal_Calendar) => if (((strEq x75 (⟨#[]⟩ : ByteArray)) && ((k32 : Int) == (w64 ((P.length : Int) - 1)))) && (decide ((0 : Int) < (k32 : Int)))) = true then some (.bk (s50.1, s50.2.1, s50.2.2)) else Option.bind (strings_CutSuffix x75 (⟨#[10]⟩ : ByteArray)) fun x93 => Option.bind (portref2_lineNumbers x93.1 9) fun x94 => Option.bind (slices_Index_Lstring_string ([(⟨#[122, 111, 110, 101]⟩ : ByteArray), (⟨#[99, 104, 97, 110, 103, 101]⟩ : ByteArray), (⟨#[115, 104, 105, 102, 116]⟩ : ByteArray), (⟨#[100, 97, 121]⟩ : ByteArray)] : List ByteArray) x94.1) fun x102 => if ((((((!x93.2) || (!x94.2.2)) || (decide (x102 < 0))) || (decide (x102 < s50.1))) || ((decide (s50.1 < 0)) && (x102 != 0))) || ((x102 == 0) && (decide ((0 : Int) ≤ s50.1)))) = true then Option.bind (portref2_ReadCalendarOf_1 (k32 : Int)) fun x118 => some (.rt (x118.1, x118.2.1, x118.2.2)) else Option.bind (α := Lp _ _) (Option.bind (α := Lp _ _) (if ((x102 == 0) && ((x94.2.1.length : Int) == 1)) = true then Option.bind (idx x94.2.1 0) fun x183 => some (.fin ((⟨(⟨x183, s50.2.1.zone.changes⟩ : cal_Zone), s50.2.1.week, s50.2.1.specials⟩ : cal_Calendar), s50.2.2)) else Option.bind (α := Lp _ _) (if ((x102 == 1) && ((x94.2.1.length : Int) == 2)) = true then Option.bind (idx x94.2.1 0) fun x218 => Option.bind (idx x94.2.1 1) fun x223 => Option.bind (appendL 8796093022208 s50.2.1.zone.changes ([(⟨x218, x223⟩ : cal_Change)] : List cal_Change)) fun x233 => some (.fin ((⟨(⟨s50.2.1.zone.offset, x233⟩ : cal_Zone), s50.2.1.week, s50.2.1.specials⟩ : cal_Calendar), s50.2.2)) else Option.bind (α := Lp _ _) (if ((x102 == 2) && ((x94.2.1.length : Int) == 3)) = true then Option.bind (idx x94.2.1 0) fun x272 => Option.bind (idx x94.2.1 1) fun x277 => Option.bind (idx x94.2.1 2) fun x282 => Option.bind (appendL 5864062014805 s50.2.1.week ([(⟨x272, x277, x282⟩ : cal_Shift)] : List cal_Shift)) fun x292 => some (.fin ((⟨s50.2.1.zone, x292, s50.2.1.specials⟩ : cal_Calendar), s50.2.2)) else if ((x102 == 3) && ((Int.tmod (x94.2.1.length : Int) 2) == 1)) = true then Option.bind (idx x94.2.1 0) fun x308 => Option.bind (whileB (fun s332 => if (decide (s332.1 < (x94.2.1.length : Int))) = true then Option.bind (idx x94.2.1 s332.1) fun x349 => Option.bind (idx x94.2.1 (w64 (s332.1 + 1))) fun x354 => Option.bind (appendL 5864062014805 s332.2.shifts ([(⟨0, x349, x354⟩ : cal_Shift)] : List cal_Shift)) fun x364 => some (.nx (w64 (s332.1 + 2), (⟨s332.2.day, x364⟩ : cal_Special))) else some (.bk (s332.1, s332.2))) (1, (⟨x308, ([] : (List cal_Shift))⟩ : cal_Special))) fun o321 => o321.andThen (fun y => some (.rt y)) fun s322 => Option.bind (appendL 4398046511104 s50.2.1.specials ([s322.2] : List cal_Special)) fun x392 => some (.fin ((⟨s50.2.1.zone, s50.2.1.week, x392⟩ : cal_Calendar), s50.2.2)) else Option.bind (portref2_ReadCalendarOf_1 (k32 : Int)) fun x405 => some (.rt (x405.1, x405.2.1, x405.2.2))) fun o248 => o248.andThen (fun y => some (.rt y)) fun s249 => some (.fin (s249.1, s249.2))) fun o194 => o194.andThen (fun y => some (.rt y)) fun s195 => some (.fin (s195.1, s195.2))) fun o162 => o162.andThen (fun y => some (.rt y)) fun s163 => some (.fin (s163.1, s163.2))) fun o140 => o140.andThen (fun y => some (.rt y)) fun s141 => some (.nx (x102, s141.1, s141.2))) _ (fun k s x hx => by rw [idx_nat, hx]; rfl)]
  rw [hwn, ← hP, ref_loop (us.length + 1) (by omega) t h2 c00 _ (fun k s hk h0 => by
      have hk' : k = us.length := by omega
      subst hk'
      have e0 : strEq (tb []) (⟨#[]⟩ : ByteArray) = true := (tb_eq [] []).trans (decide_eq_true rfl)
      rw [e0, if_pos (by simp; omega)]) (fun k s l hor hno hll hsm hkk => by
      have e0 : strEq (tb l) (⟨#[]⟩ : ByteArray) = decide (l = []) := tb_eq l []
      have hw : w64 ((k : Int) + 1) = ((k + 1 : Nat) : Int) := by rw [w64_id (by omega) (by omega)]; rfl
      rw [e0, if_neg (by
        simp
        intro q1 q2
        rcases hor with h | h | h
        · exact absurd q1 h
        · omega
        · omega), suffix_none l (by omega) hno, Option.bind_some]
      have := line_val k s l hsm hll false
      rw [if_pos rfl, hw] at this
      exact this) (fun k s u hno hll hsm hkk => by
      have e0 : strEq (tb (u ++ [10])) (⟨#[]⟩ : ByteArray) = decide (u ++ [10] = []) := tb_eq _ []
      have hw : w64 ((k : Int) + 1) = ((k + 1 : Nat) : Int) := by rw [w64_id (by omega) (by omega)]; rfl
      rw [e0, if_neg (by simp), suffix_feed u (by omega), Option.bind_some]
      have := line_val k s u hsm hll true
      rw [if_neg (by decide), hw] at this
      exact this) us 0 (-1) c00 (by omega) hus (by rw [← hfl]; omega) ⟨by simp, by simp, by simp⟩, Option.bind_some]
  cases goL t us 0 (-1) c00 with
  | inl m => exact ⟨_, rfl, rfl⟩
  | inr r =>
    simp only [Lp.andThen_fin]
    obtain ⟨e, a1, b1, _⟩ := cal_eq r.2
    rw [a1, b1, Option.bind_some]
    split <;> exact ⟨_, rfl, rfl⟩
theorem parses_true (s : ByteArray) : portlaw2_CalParses s = some true := by
  obtain ⟨r, h1, h2⟩ := read_eq s
  unfold portlaw2_CalParses
  rw [h1, h2]
  simp [alike_self]
end Go.Proofs.YtebbjefkndfkpaaGreatDoor.M
