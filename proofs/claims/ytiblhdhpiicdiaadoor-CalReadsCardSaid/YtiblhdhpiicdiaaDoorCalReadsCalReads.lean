/-
  CalReads: the plain part.
-/
import Derived.Test.YtiblhdhpiicdiaaDoorCalReadsCalNumber
import Derived.Test.YtiblhdhpiicdiaaDoorCalReadsCutVal
import Derived.Test.YtiblhdhpiicdiaaDoorCalReadsSolBase
namespace Go.Proofs.YtiblhdhpiicdiaaDoor.M
open Go Go.Pu Go.Lib
set_option linter.unusedSimpArgs false
set_option linter.unusedVariables false

theorem digB_can {k : Nat} {t : List UInt8} (h : digB k t = true) : canB k t = true ∧ bare t = t := by
  unfold digB at h
  simp only [Bool.and_eq_true, Bool.or_eq_true, Bool.not_eq_true', decide_eq_true_eq, decide_eq_false_iff_not] at h
  obtain ⟨h1, h2, h3, h4⟩ := h
  have hb := bare_pos (head_dig h3)
  refine ⟨?_, hb⟩
  rw [can_spec, hb]
  exact ⟨h1, h2, h3, h4, fun q => q.2 q.1⟩
theorem can_digB {k : Nat} (hk : k ≤ 17) {t : List UInt8} (h : canB k t = true) (hn : 0 ≤ numOf t) : digB k t = true := by
  obtain ⟨_, _, _, h4⟩ := can_read hk h
  have hb : bare t = t := bare_pos (fun q => by have := h4.2 q; omega)
  obtain ⟨h1, h2, h3, h5, _⟩ := (can_spec k t).1 h
  rw [hb] at h1 h2 h3 h5
  unfold digB
  simp only [Bool.and_eq_true, Bool.or_eq_true, Bool.not_eq_true', decide_eq_true_eq, decide_eq_false_iff_not]
  exact ⟨h1, h2, h3, h5⟩
theorem can_nomem {k : Nat} {t : List UInt8} (h : canB k t = true) {c : UInt8} (hc : dig c = false) (h45 : c ≠ 45) : c ∉ t := by
  obtain ⟨_, _, h3, _, _⟩ := (can_spec k t).1 h
  have hn : c ∉ bare t := fun hm => by
    have := List.all_eq_true.1 h3 c hm
    rw [hc] at this
    cases this
  intro hm
  unfold bare at hn
  split at hn
  · rcases List.mem_cons.1 hm with e | e
    · exact h45 e
    · exact hn e
  · exact hn hm
theorem dig_nomem {t : List UInt8} (h : t.all dig = true) {c : UInt8} (hc : dig c = false) : c ∉ t := fun hm => by
  have := List.all_eq_true.1 h c hm
  rw [hc] at this
  cases this
/-- what stands behind the minutes -/
def tailT (ot : Option (List UInt8)) : List UInt8 := match ot with | none => [] | some t => 47 :: t
def kOf (ot : Option (List UInt8)) : Int := match ot with | none => 1 | some t => numOf t
structure Fm (l day h m : List UInt8) (ot : Option (List UInt8)) : Prop where
  eq : l = day ++ 46 :: (h ++ 58 :: (m ++ tailT ot))
  day : canB 4 day = true
  hh : twoB h = true
  mm : twoB m = true
  h23 : dval 0 h ≤ 23
  m59 : dval 0 m ≤ 59
  times : ∀ t, ot = some t → canB 2 t = true ∧ 2 ≤ numOf t
theorem two_spec {l : List UInt8} (h : twoB l = true) : l.length = 2 ∧ l.all dig = true := by
  unfold twoB at h
  rw [Bool.and_eq_true, decide_eq_true_eq] at h
  exact h
/-- what the code cuts out of such a text -/
theorem Fm.cuts {l day h m : List UInt8} {ot : Option (List UInt8)} (f : Fm l day h m ot) : cutA 47 l = day ++ 46 :: (h ++ 58 :: m) ∧ (47 ∈ l ↔ ot.isSome = true) ∧ (∀ t, ot = some t → cutB 47 l = t) ∧ cutA 46 (day ++ 46 :: (h ++ 58 :: m)) = day ∧ cutB 46 (day ++ 46 :: (h ++ 58 :: m)) = h ++ 58 :: m ∧ cutA 58 (h ++ 58 :: m) = h ∧ cutB 58 (h ++ 58 :: m) = m ∧ cutA 46 l = day ∧ cutB 46 l = h ++ 58 :: (m ++ tailT ot) := by
  have hh := two_spec f.hh
  have hm := two_spec f.mm
  have n47 : (47 : UInt8) ∉ day ++ 46 :: (h ++ 58 :: m) := by
    simp only [List.mem_append, List.mem_cons, not_or]
    exact ⟨can_nomem f.day (by decide) (by decide), by decide, dig_nomem hh.2 (by decide), by decide, dig_nomem hm.2 (by decide)⟩
  have n46 : (46 : UInt8) ∉ day := can_nomem f.day (by decide) (by decide)
  have n58 : (58 : UInt8) ∉ h := dig_nomem hh.2 (by decide)
  have hl : l = (day ++ 46 :: (h ++ 58 :: m)) ++ tailT ot := by rw [f.eq]; simp
  refine ⟨?_, ?_, ?_, (cut_at 46 day _ n46).1, (cut_at 46 day _ n46).2, (cut_at 58 h _ n58).1, (cut_at 58 h _ n58).2, ?_, ?_⟩
  · rw [hl]
    cases ot with
    | none => rw [tailT, List.append_nil]; exact (cut_none 47 _ n47).1
    | some t => exact (cut_at 47 _ t n47).1
  · rw [hl]
    cases ot with
    | none => rw [tailT, List.append_nil]; exact ⟨fun h => absurd h n47, fun h => by cases h⟩
    | some t => exact ⟨fun _ => rfl, fun _ => by simp [tailT]⟩
  · rintro t rfl
    rw [hl]
    exact (cut_at 47 _ t n47).2
  · rw [f.eq]; exact (cut_at 46 day _ n46).1
  · rw [f.eq]; exact (cut_at 46 day _ n46).2
/-- what both do with the numbers -/
def fin1 (z : cal_Zone) (d mn k : Int) : Option (Int × Int) := Option.bind (cal_Shown z d mn) fun x72 => if ((x72.2 != 0) || (decide ((x72.1.length : Int) < k))) = true then some (0, 7) else Option.bind (idx x72.1 (w64 (k - 1))) fun x83 => some (x83, 0)
noncomputable def fin2 (z : cal_Zone) (d mn k : Int) : Option (Int × Int) := Option.bind (portref2_ShownIn z d mn) fun x99 => if (decide ((x99.length : Int) < k)) = true then some (0, 7) else Option.bind (idx x99 (w64 (k - 1))) fun x108 => some (x108, 0)
theorem fin_eq {z : cal_Zone} (hz : ZoneOk z) (h60 : z.changes.length ≤ 60) (e1 : cal_CheckZone z = some 0) (d : Int) (hd : -100000 ≤ d ∧ d ≤ 100000) (mn : Int) (hm : 0 ≤ mn ∧ mn ≤ 1439) (k : Int) (hk : 1 ≤ k ∧ k ≤ 1000) : ∃ x, fin1 z d mn k = some x ∧ fin2 z d mn k = some x := by
  unfold fin1 fin2 cal_Shown portref2_ShownIn
  have hw1 : w64 (d * 1440) = d * 1440 := w64_id (by omega) (by omega)
  have hw2 : w64 (d * 1440 + mn) = d * 1440 + mn := w64_id (by omega) (by omega)
  simp only [e1, or_two, Option.bind_some, hw1, hw2]
  by_cases hl : -1 ≤ d ∧ d ≤ 2084
  · have h1 : cal_localTime d mn = 0 := by
      unfold cal_localTime
      rw [if_neg]
      simp [cal_within]
      omega
    simp only [h1, ne_eq, not_true, if_false, bne_self_eq_false, Bool.false_eq_true, parts_val z h60, Option.bind_some]
    have hL : -5000 ≤ d * 1440 + mn ∧ d * 1440 + mn ≤ 4000000 := by omega
    generalize d * 1440 + mn = L at hL
    rw [w64_id (n := L - 1440) (by omega) (by omega), w64_id (n := L + 1440) (by omega) (by omega)]
    obtain ⟨b, q5⟩ := shownIn_loop hz L _ _ hL rfl rfl
    rw [shown_loop hz h60 L hL, q5]
    simp only [Option.bind_some, Lp.andThen_fin, bne_self_eq_false, Bool.false_or]
    have hsl := sol_len z L 3000001
    by_cases hlen : ((Sol z L 3000001).length : Int) < k
    · rw [if_pos (by simpa using hlen)]
      exact ⟨_, rfl, rfl⟩
    · rw [if_neg (by simpa using hlen)]
      have hwk : w64 (k - 1) = ((k.toNat - 1 : Nat) : Int) := by rw [w64_id (by omega) (by omega)]; omega
      rw [hwk, idx_lt _ _ (by omega)]
      exact ⟨_, rfl, rfl⟩
  · have h1 : cal_localTime d mn = 2 := by
      unfold cal_localTime
      rw [if_pos]
      simp [cal_within]
      omega
    have hL : d * 1440 + mn < -1440 ∨ 3001440 < d * 1440 + mn := by omega
    have hLb : -1000000000 ≤ d * 1440 + mn ∧ d * 1440 + mn ≤ 1000000000 := by omega
    simp only [h1, ne_eq, not_true, not_false_eq_true, if_false, if_true, Option.bind_some]
    generalize d * 1440 + mn = L at hL hLb
    rw [w64_id (n := L - 1440) (by omega) (by omega), w64_id (n := L + 1440) (by omega) (by omega)]
    have hloop : ∀ (lo hi : Int), hi < lo → whileB (R := List Int) (fun s20 : List Int × Int => if (decide (s20.2 ≤ hi)) = true then Option.bind (Option.bind (portref2_OffsetIn z s20.2) fun x47 => Option.bind (if ((w64 (s20.2 + x47)) == L) = true then Option.bind (appendL 17592186044416 s20.1 ([s20.2] : List Int)) fun x67 => some x67 else some s20.1) fun s52 => some s52) fun s35 => some (.nx (s35, w64 (s20.2 + 1))) else some (.bk (s20.1, s20.2))) (([] : (List Int)), lo) = some (.fin ([], lo)) := by
      intro lo hi hlt
      obtain ⟨o, ho, rfl⟩ := whileB_spec (R := List Int) (body := fun s20 : List Int × Int => if (decide (s20.2 ≤ hi)) = true then Option.bind (Option.bind (portref2_OffsetIn z s20.2) fun x47 => Option.bind (if ((w64 (s20.2 + x47)) == L) = true then Option.bind (appendL 17592186044416 s20.1 ([s20.2] : List Int)) fun x67 => some x67 else some s20.1) fun s52 => some s52) fun s35 => some (.nx (s35, w64 (s20.2 + 1))) else some (.bk (s20.1, s20.2))) (fun x => x = ([], lo)) (fun _ => 0) (fun o => o = .fin ([], lo)) (s := ([], lo)) rfl (by
        rintro _ rfl
        simp only
        rw [if_neg (by simp; omega)]
        exact ⟨_, rfl, rfl⟩)
      exact ho
    rw [hloop _ _ (by split <;> split <;> omega)]
    simp only [Option.bind_some, Lp.andThen_fin]
    refine ⟨(0, 7), ?_, ?_⟩
    · rw [if_pos (by simp), Option.bind_some, if_pos (by simp)]
    · rw [if_pos (by simp; omega)]
theorem code_val (z : cal_Zone) (l : List UInt8) (hl : l.length ≤ 140737488355328) (e1 : cal_CheckZone z = some 0) :
    (∀ day h m ot, Fm l day h m ot → cal_ReadMoment z (tb l) = fin1 z (numOf day) (w64 (w64 (60 * (dval 0 h : Int)) + (dval 0 m : Int))) (kOf ot)) ∧ ((¬ ∃ day h m ot, Fm l day h m ot) → cal_ReadMoment z (tb l) = some (0, 8)) := by
  have la := cutA_len 47 l
  have lb := cutB_len 47 l
  have lc := cutA_len 46 (cutA 47 l)
  have ld := cutB_len 46 (cutA 47 l)
  have le := cutA_len 58 (cutB 46 (cutA 47 l))
  have lf := cutB_len 58 (cutB 46 (cutA 47 l))
  have key : cal_ReadMoment z (tb l) = if (decide (46 ∈ cutA 47 l) && (decide (58 ∈ cutB 46 (cutA 47 l)) && (canB 4 (cutA 46 (cutA 47 l)) && ((twoB (cutA 58 (cutB 46 (cutA 47 l))) && decide ((dval 0 (cutA 58 (cutB 46 (cutA 47 l))) : Int) ≤ 23)) && ((twoB (cutB 58 (cutB 46 (cutA 47 l))) && decide ((dval 0 (cutB 58 (cutB 46 (cutA 47 l))) : Int) ≤ 59)) && (if 47 ∈ l then (canB 2 (cutB 47 l) && decide (2 ≤ numOf (cutB 47 l))) else true)))))) = true then
      fin1 z (numOf (cutA 46 (cutA 47 l))) (w64 (w64 (60 * (dval 0 (cutA 58 (cutB 46 (cutA 47 l))) : Int)) + (dval 0 (cutB 58 (cutB 46 (cutA 47 l))) : Int))) (if 47 ∈ l then numOf (cutB 47 l) else 1) else some (0, 8) := by
    unfold cal_ReadMoment
    rw [e1, Option.bind_some, if_neg (by decide)]
    have c47 : strings_Cut (tb l) (⟨#[47]⟩ : ByteArray) = _ := cut_val 47 l hl
    have c46 : strings_Cut (tb (cutA 47 l)) (⟨#[46]⟩ : ByteArray) = _ := cut_val 46 (cutA 47 l) (by omega)
    have c58 : strings_Cut (tb (cutB 46 (cutA 47 l))) (⟨#[58]⟩ : ByteArray) = _ := cut_val 58 (cutB 46 (cutA 47 l)) (by omega)
    rw [c47, Option.bind_some]
    simp only
    rw [c46, Option.bind_some]
    simp only
    rw [c58, Option.bind_some]
    simp only
    have n4 : cal_number (tb (cutA 46 (cutA 47 l))) 4 = _ := num_code (cutA 46 (cutA 47 l)) (by omega) 4 (by omega)
    have n2 : cal_number (tb (cutB 47 l)) 2 = _ := num_code (cutB 47 l) (by omega) 2 (by omega)
    obtain ⟨vh, th, fh⟩ := two_code (cutA 58 (cutB 46 (cutA 47 l))) (by omega) 23
    obtain ⟨vm, tm, fm⟩ := two_code (cutB 58 (cutB 46 (cutA 47 l))) (by omega) 59
    rw [n4, Option.bind_some, th, Option.bind_some, tm, Option.bind_some]
    simp only
    have e5 : (if decide (47 ∈ l) = true then Option.bind (cal_number (tb (cutB 47 l)) 2) fun x50 => some (x50.1, (x50.2 && (decide ((2 : Int) ≤ x50.1)))) else some (1, true)) = some ((if 47 ∈ l then (if canB 2 (cutB 47 l) = true then numOf (cutB 47 l) else 0) else 1), (if 47 ∈ l then (canB 2 (cutB 47 l) && decide (2 ≤ numOf (cutB 47 l))) else true)) := by
      rw [n2]
      by_cases h47 : 47 ∈ l
      · rw [if_pos (by simpa using h47), if_pos h47, if_pos h47]
        cases hc : canB 2 (cutB 47 l) <;> rfl
      · rw [if_neg (by simpa using h47), if_neg h47, if_neg h47]
    rw [e5, Option.bind_some]
    simp only
    generalize hdd : (if 47 ∈ l then (canB 2 (cutB 47 l) && decide (2 ≤ numOf (cutB 47 l))) else true) = dd
    have hx29 : (if canB 4 (cutA 46 (cutA 47 l)) = true then (numOf (cutA 46 (cutA 47 l)), true) else ((0 : Int), false)).2 = canB 4 (cutA 46 (cutA 47 l)) := by
      cases canB 4 (cutA 46 (cutA 47 l)) <;> rfl
    rw [hx29]
    by_cases hall : (decide (46 ∈ cutA 47 l) && (decide (58 ∈ cutB 46 (cutA 47 l)) && (canB 4 (cutA 46 (cutA 47 l)) && ((twoB (cutA 58 (cutB 46 (cutA 47 l))) && decide ((dval 0 (cutA 58 (cutB 46 (cutA 47 l))) : Int) ≤ 23)) && ((twoB (cutB 58 (cutB 46 (cutA 47 l))) && decide ((dval 0 (cutB 58 (cutB 46 (cutA 47 l))) : Int) ≤ 59)) && dd))))) = true
    · rw [if_pos hall]
      simp only [Bool.and_eq_true] at hall
      obtain ⟨a1, a2, a3, ⟨a4, a4'⟩, ⟨a5, a5'⟩, a6⟩ := hall
      rw [a1, a2, a3, a4, a4', a5, a5', a6, fh a4, fm a5]
      simp only [Bool.not_true, Bool.or_self, Bool.and_self, Bool.false_eq_true, if_false, if_true]
      have e6 : (if 47 ∈ l then (if canB 2 (cutB 47 l) = true then numOf (cutB 47 l) else 0) else 1) = (if 47 ∈ l then numOf (cutB 47 l) else (1 : Int)) := by
        rw [a6] at hdd
        split
        · rename_i h47
          rw [if_pos h47, Bool.and_eq_true] at hdd
          rw [if_pos hdd.1]
        · rfl
      rw [e6]
      rfl
    · rw [if_neg hall, if_pos]
      revert hall
      generalize decide (46 ∈ cutA 47 l) = b1
      generalize decide (58 ∈ cutB 46 (cutA 47 l)) = b2
      generalize canB 4 (cutA 46 (cutA 47 l)) = b3
      generalize (twoB (cutA 58 (cutB 46 (cutA 47 l))) && decide ((dval 0 (cutA 58 (cutB 46 (cutA 47 l))) : Int) ≤ 23)) = b4
      generalize (twoB (cutB 58 (cutB 46 (cutA 47 l))) && decide ((dval 0 (cutB 58 (cutB 46 (cutA 47 l))) : Int) ≤ 59)) = b5
      cases b1 <;> cases b2 <;> cases b3 <;> cases b4 <;> cases b5 <;> cases dd <;> simp
  rw [key]
  constructor
  · intro day h m ot f
    obtain ⟨k1, k2, k3, k4, k5, k6, k7, _, _⟩ := f.cuts
    rw [k1, k4, k5, k6, k7]
    have hm46 : (46 : UInt8) ∈ day ++ 46 :: (h ++ 58 :: m) := by simp
    have hm58 : (58 : UInt8) ∈ h ++ 58 :: m := by simp
    rw [decide_eq_true hm46, decide_eq_true hm58, f.day, f.hh, f.mm, decide_eq_true (show (dval 0 h : Int) ≤ 23 by have := f.h23; omega), decide_eq_true (show (dval 0 m : Int) ≤ 59 by have := f.m59; omega)]
    cases ot with
    | none =>
      have h47 : ¬ (47 : UInt8) ∈ l := fun h => by have := k2.1 h; cases this
      rw [if_neg h47, if_neg h47]
      rfl
    | some t =>
      have h47 : (47 : UInt8) ∈ l := k2.2 rfl
      rw [if_pos h47, if_pos h47, k3 t rfl, (f.times t rfl).1, decide_eq_true (f.times t rfl).2]
      rfl
  · intro hn
    rw [if_neg]
    intro hall
    simp only [Bool.and_eq_true, decide_eq_true_eq] at hall
    obtain ⟨a1, a2, a3, ⟨a4, a4'⟩, ⟨a5, a5'⟩, a6⟩ := hall
    refine hn ⟨_, _, _, (if 47 ∈ l then some (cutB 47 l) else none), ⟨?_, a3, a4, a5, by omega, by omega, ?_⟩⟩
    · have j1 := cut_join 46 _ a1
      have j2 := cut_join 58 _ a2
      by_cases h47 : 47 ∈ l
      · have j3 := cut_join 47 _ h47
        rw [if_pos h47]
        conv => lhs; rw [j3, j1, j2]
        simp [tailT]
      · have j3 := (cut_none 47 _ h47).1
        rw [if_neg h47]
        conv => lhs; rw [← j3, j1, j2]
        simp [tailT]
    · intro t ht
      by_cases h47 : 47 ∈ l
      · rw [if_pos h47] at ht a6
        rw [← Option.some.inj ht]
        rw [Bool.and_eq_true, decide_eq_true_eq] at a6
        exact a6
      · rw [if_neg h47] at ht
        cases ht
theorem u8_neq (c : UInt8) (n : Nat) (hn : n < 256) : ((c.toNat : Int) != (n : Int)) = !(c == UInt8.ofNat n) := by
  rw [Bool.eq_iff_iff, bne_iff_ne, Bool.not_eq_true', beq_eq_false_iff_ne]
  constructor
  · intro h q
    rw [q, UInt8.toNat_ofNat'] at h
    omega
  · intro h q
    apply h
    apply UInt8.toNat_inj.1
    rw [UInt8.toNat_ofNat']
    omega
theorem atoi_val (t : List UInt8) (hl : t.length ≤ 100) : strconv_Atoi (tb t) = some (match atoiAll t with | .ok v => (v, false) | .range => (atoiSat t, true) | _ => (0, true)) := by
  unfold strconv_Atoi
  rw [if_pos (by rw [tb_size]; omega), tb_list]
  cases atoiAll t <;> rfl
theorem ref_val (z : cal_Zone) (l : List UInt8) (hl : l.length ≤ 140737488355328) (e1 : portref2_ZoneFault z = some 0) :
    (∃ day h m ot, Fm l day h m ot ∧ portref2_ReadMomentOf z (tb l) = fin2 z (numOf day) (w64 (w64 ((dval 0 h : Int) * 60) + (dval 0 m : Int))) (kOf ot)) ∨ ((¬ ∃ day h m ot, Fm l day h m ot) ∧ portref2_ReadMomentOf z (tb l) = some (0, 8)) := by
  unfold portref2_ReadMomentOf
  rw [e1, Option.bind_some, if_neg (by decide)]
  have c46 : strings_Cut (tb l) (⟨#[46]⟩ : ByteArray) = _ := cut_val 46 l hl
  rw [c46, Option.bind_some]
  simp only
  have la := cutA_len 46 l
  have lb := cutB_len 46 l
  have n4 : portref2_number (tb (cutA 46 l)) 4 = _ := num_ref (cutA 46 l) (by omega) 4 (by omega)
  rw [n4, Option.bind_some]
  have hx29 : (if canB 4 (cutA 46 l) = true then (numOf (cutA 46 l), true) else ((0 : Int), false)).2 = canB 4 (cutA 46 l) := by
    cases canB 4 (cutA 46 l) <;> rfl
  rw [hx29, tb_size]
  have hcut : ∀ day h m ot, Fm l day h m ot → 46 ∈ l ∧ cutA 46 l = day ∧ cutB 46 l = h ++ 58 :: (m ++ tailT ot) := fun day h m ot f => by
    obtain ⟨_, _, _, _, _, _, _, k8, k9⟩ := f.cuts
    exact ⟨by rw [f.eq]; simp, k8, k9⟩
  by_cases h1 : 46 ∈ l ∧ canB 4 (cutA 46 l) = true ∧ 5 ≤ (cutB 46 l).length
  rotate_left
  · have e : (((!(decide (46 ∈ l))) || (!(canB 4 (cutA 46 l)))) || (decide (((cutB 46 l).length : Int) < 5))) = true := by
      by_cases q1 : 46 ∈ l
      · by_cases q2 : canB 4 (cutA 46 l) = true
        · have q3 : ¬ 5 ≤ (cutB 46 l).length := fun q => h1 ⟨q1, q2, q⟩
          rw [decide_eq_true (show ((cutB 46 l).length : Int) < 5 by omega), Bool.or_true]
        · have : canB 4 (cutA 46 l) = false := by simpa using q2
          rw [this]; simp
      · rw [decide_eq_false q1]; simp
    rw [e]
    simp only [if_true, Option.bind_some]
    refine Or.inr ⟨?_, trivial⟩
    rintro ⟨day, h, m, ot, f⟩
    obtain ⟨q1, q2, q3⟩ := hcut day h m ot f
    refine h1 ⟨q1, by rw [q2]; exact f.day, ?_⟩
    rw [q3]
    have := (two_spec f.hh).1
    have := (two_spec f.mm).1
    simp only [List.length_append, List.length_cons]
    omega
  obtain ⟨p1, p2, p3⟩ := h1
  rw [decide_eq_true p1, p2, decide_eq_false (show ¬ ((cutB 46 l).length : Int) < 5 by omega), if_pos rfl]
  simp only [Bool.not_true, Bool.or_self, Bool.false_eq_true, if_false]
  have hj := cut_join 46 l p1
  generalize hday : cutA 46 l = day at *
  generalize hrest : cutB 46 l = rest at *
  match rest, p3 with
  | r0 :: r1 :: r2 :: r3 :: r4 :: q, _ =>
    have i2 : idxS (tb (r0 :: r1 :: r2 :: r3 :: r4 :: q)) 2 = some r2 := tb_idx _ 2
    have s2 : sliceS (tb (r0 :: r1 :: r2 :: r3 :: r4 :: q)) none (some 2) = some (tb [r0, r1]) := tb_sliceH _ 2 (by simp)
    have s35 : sliceS (tb (r0 :: r1 :: r2 :: r3 :: r4 :: q)) (some 3) (some 5) = some (tb [r3, r4]) := tb_slice _ 3 5 (by omega) (by simp)
    rw [i2, Option.bind_some, Option.bind_some, s2, s35]
    simp only [Option.bind_some]
    rw [show ((r2.toNat : Int) != 58) = !(r2 == 58) from u8_neq r2 58 (by omega), tb_cat _ _ (by simp), Option.bind_some]
    obtain ⟨t, ht, he⟩ := trim_digits ([r0, r1] ++ [r3, r4]) (by simp)
    rw [ht, Option.bind_some, he]
    by_cases h58 : r2 = 58
    rotate_left
    · rw [if_pos (by simpa using h58), Option.bind_some, if_pos rfl]
      refine Or.inr ⟨?_, rfl⟩
      rintro ⟨day', h, m, ot, f⟩
      obtain ⟨q1, q2, q3⟩ := hcut day' h m ot f
      obtain ⟨u1, u2⟩ := two_spec f.hh
      match h, u1 with
      | [a, b], _ =>
        simp only [List.cons_append, List.nil_append, List.cons.injEq] at q3
        exact h58 q3.2.2.1
    subst h58
    rw [if_neg (by decide), Option.bind_some]
    by_cases hdg : ([r0, r1] ++ [r3, r4]).all dig = true
    rotate_left
    · have hdn : (!(([r0, r1] ++ [r3, r4]).all dig)) = true := by
        cases hq : ([r0, r1] ++ [r3, r4]).all dig
        · rfl
        · exact absurd hq hdg
      rw [if_pos hdn]
      refine Or.inr ⟨?_, rfl⟩
      rintro ⟨day', h, m, ot, f⟩
      obtain ⟨q1, q2, q3⟩ := hcut day' h m ot f
      obtain ⟨u1, u2⟩ := two_spec f.hh
      obtain ⟨u3, u4⟩ := two_spec f.mm
      match h, u1, m, u3 with
      | [a, b], _, [c, d], _ =>
        simp only [List.cons_append, List.nil_append, List.cons.injEq] at q3
        obtain ⟨rfl, rfl, _, rfl, rfl, _⟩ := q3
        apply hdg
        rw [List.all_append, u2, u4]
        rfl
    rw [if_neg (by rw [hdg]; decide)]
    rw [List.all_append, Bool.and_eq_true] at hdg
    obtain ⟨d1, d2⟩ := hdg
    rw [atoi_val _ (by simp), Option.bind_some, atoi_val _ (by simp), Option.bind_some, atoi_digits _ (by simp) (by simp) d1, atoi_digits _ (by simp) (by simp) d2]
    simp only [List.length_cons]
    have hh2 : twoB [r0, r1] = true := by unfold twoB; rw [d1]; rfl
    have hm2 : twoB [r3, r4] = true := by unfold twoB; rw [d2]; rfl
    -- an end to each road
    have bad : (∀ ot, q = tailT ot → ¬ Fm l day [r0, r1] [r3, r4] ot) → ¬ ∃ day h m ot, Fm l day h m ot := by
      rintro hb ⟨day', h, m, ot, f⟩
      obtain ⟨q1, q2, q3⟩ := hcut day' h m ot f
      obtain ⟨u1, u2⟩ := two_spec f.hh
      obtain ⟨u3, u4⟩ := two_spec f.mm
      match h, u1, m, u3 with
      | [a, b], _, [c, d], _ =>
        simp only [List.cons_append, List.nil_append, List.cons.injEq] at q3
        obtain ⟨rfl, rfl, _, rfl, rfl, q4⟩ := q3
        rw [← q2] at f
        exact hb ot q4 f
    have last : ∀ ot, q = tailT ot → (∀ t, ot = some t → canB 2 t = true ∧ 2 ≤ numOf t) → ((∃ day h m ot2, Fm l day h m ot2 ∧ (if ((decide ((23 : Int) < (dval 0 [r0, r1] : Int))) || (decide ((59 : Int) < (dval 0 [r3, r4] : Int)))) = true then some (0, 8) else fin2 z (numOf (cutA 46 l)) (w64 (w64 ((dval 0 [r0, r1] : Int) * 60) + (dval 0 [r3, r4] : Int))) (kOf ot)) = fin2 z (numOf day) (w64 (w64 ((dval 0 h : Int) * 60) + (dval 0 m : Int))) (kOf ot2)) ∨ ((¬ ∃ day h m ot, Fm l day h m ot) ∧ (if ((decide ((23 : Int) < (dval 0 [r0, r1] : Int))) || (decide ((59 : Int) < (dval 0 [r3, r4] : Int)))) = true then some (0, 8) else fin2 z (numOf (cutA 46 l)) (w64 (w64 ((dval 0 [r0, r1] : Int) * 60) + (dval 0 [r3, r4] : Int))) (kOf ot)) = some (0, 8))) := by
      intro ot hq hot
      by_cases hb : dval 0 [r0, r1] ≤ 23 ∧ dval 0 [r3, r4] ≤ 59
      · left
        refine ⟨day, [r0, r1], [r3, r4], ot, ⟨by rw [hj, hq]; rfl, p2, hh2, hm2, hb.1, hb.2, hot⟩, ?_⟩
        rw [if_neg (by simp; omega), hday]
      · right
        refine ⟨bad fun ot' _ f => hb ⟨f.h23, f.m59⟩, ?_⟩
        rw [if_pos (by simp; omega)]
    cases q with
    | nil =>
      rw [if_neg (by simp), Option.bind_some, Lp.andThen_fin]
      have := last none rfl (fun t ht => by cases ht)
      rw [hday] at this
      exact this
    | cons q0 t =>
      have i5 : idxS (tb (r0 :: r1 :: 58 :: r3 :: r4 :: q0 :: t)) 5 = some q0 := tb_idx _ 5
      have s6 : sliceS (tb (r0 :: r1 :: 58 :: r3 :: r4 :: q0 :: t)) (some 6) none = some (tb t) := tb_sliceL _ 6 (by simp)
      rw [if_pos (by simp; omega), i5, s6]
      simp only [Option.bind_some]
      rw [show ((q0.toNat : Int) != 47) = !(q0 == 47) from u8_neq q0 47 (by omega)]
      have ltt : t.length ≤ 140737488355328 := by
        simp only [List.length_cons] at lb
        omega
      have dg2 : portref2_digits (tb t) 2 = _ := digits_val t (by omega) 2
      by_cases h47 : q0 = 47
      rotate_left
      · rw [if_pos (by simpa using h47)]
        simp only [Option.bind_some, if_true, Lp.andThen_rt]
        refine Or.inr ⟨bad fun ot hq _ => ?_, by first | trivial | rfl⟩
        cases ot with
        | none => cases hq
        | some t' =>
          simp only [tailT, List.cons.injEq] at hq
          exact h47 hq.1
      subst h47
      rw [if_neg (by decide), dg2, Option.bind_some, Option.bind_some]
      by_cases hd2 : digB 2 t = true
      rotate_left
      · rw [if_pos (by simpa using hd2)]
        simp only [Option.bind_some, Lp.andThen_rt]
        refine Or.inr ⟨bad fun ot hq f => ?_, by first | trivial | rfl⟩
        cases ot with
        | none => cases hq
        | some t' =>
          simp only [tailT, List.cons.injEq, true_and] at hq
          subst hq
          obtain ⟨c1, c2⟩ := f.times t rfl
          exact hd2 (can_digB (by omega) c1 (by omega))
      obtain ⟨hc, hb⟩ := digB_can hd2
      have hlt : t.length ≤ 2 := by have := ((can_spec 2 t).1 hc).2.1; rw [hb] at this; exact this
      rw [if_neg (by rw [hd2]; decide), atoi_val t (by omega), Option.bind_some, (can_read (by omega) hc).1]
      simp only
      by_cases hk2 : numOf t < 2
      · rw [if_pos (by simpa using hk2)]
        simp only [Option.bind_some, Lp.andThen_rt]
        refine Or.inr ⟨bad fun ot hq f => ?_, by first | trivial | rfl⟩
        cases ot with
        | none => cases hq
        | some t' =>
          simp only [tailT, List.cons.injEq, true_and] at hq
          subst hq
          have := (f.times t rfl).2
          omega
      · rw [if_neg (by simpa using hk2)]
        simp only [Option.bind_some, Lp.andThen_fin]
        have := last (some t) rfl (fun t' ht => by cases ht; exact ⟨hc, by omega⟩)
        rw [hday] at this
        exact this
theorem num_small {k : Nat} (hk : k ≤ 5) {l : List UInt8} (h : canB k l = true) : -100000 ≤ numOf l ∧ numOf l ≤ 100000 := by
  obtain ⟨_, _, h3, _⟩ := can_read (by omega) h
  obtain ⟨_, c2, c3, _, _⟩ := (can_spec k l).1 h
  have := dval_lt _ c3
  have : 10 ^ (bare l).length ≤ 10 ^ 5 := Nat.pow_le_pow_right (by decide) (by omega)
  omega
theorem reads_true (z : cal_Zone) (s : ByteArray) (hs : s.size ≤ 140737488355328) : portlaw2_CalReads z s = some true := by
  obtain ⟨r, e1, e2, hok⟩ := zone_eq z
  suffices hx : ∃ x, cal_ReadMoment z s = some x ∧ portref2_ReadMomentOf z s = some x by
    obtain ⟨x, q1, q2⟩ := hx
    unfold portlaw2_CalReads
    rw [q1, q2, Option.bind_some, Option.bind_some]
    simp
  by_cases hr : r = 0
  rotate_left
  · unfold cal_ReadMoment portref2_ReadMomentOf
    rw [e1, e2, Option.bind_some, Option.bind_some, if_pos (by simpa using hr), if_pos (by simpa using hr)]
    exact ⟨_, rfl, rfl⟩
  subst hr
  have hz := hok rfl
  have h60 : z.changes.length ≤ 60 := by
    have := e1
    unfold cal_CheckZone at this
    by_cases h1 : (!(cal_within z.offset (-1440) 1440)) = true
    · simp [h1] at this
    · by_cases h : (60 : Int) < (z.changes.length : Int)
      · simp [h1, h] at this
      · omega
  have hl : s.data.toList.length ≤ 140737488355328 := hs
  obtain ⟨c1, c2⟩ := code_val z s.data.toList hl e1
  rw [tb_of] at c1 c2
  rcases ref_val z s.data.toList hl e2 with ⟨day, h, m, ot, f, hr⟩ | ⟨hn, hr⟩
  · rw [tb_of] at hr
    rw [hr, c1 day h m ot f]
    have hd := num_small (by omega) f.day
    have h1 := f.h23
    have h2 := f.m59
    have hw1 : w64 (60 * (dval 0 h : Int)) = 60 * (dval 0 h : Int) := w64_id (by omega) (by omega)
    have hw2 : w64 ((dval 0 h : Int) * 60) = (dval 0 h : Int) * 60 := w64_id (by omega) (by omega)
    have hw3 : w64 (60 * (dval 0 h : Int) + (dval 0 m : Int)) = 60 * (dval 0 h : Int) + (dval 0 m : Int) := w64_id (by omega) (by omega)
    have hw4 : w64 ((dval 0 h : Int) * 60 + (dval 0 m : Int)) = 60 * (dval 0 h : Int) + (dval 0 m : Int) := by rw [w64_id (by omega) (by omega)]; omega
    rw [hw1, hw2, hw3, hw4]
    refine fin_eq hz h60 e1 _ hd _ (by omega) _ ?_
    cases ot with
    | none => exact ⟨by decide, by decide⟩
    | some t =>
      obtain ⟨t1, t2⟩ := f.times t rfl
      obtain ⟨_, _, t3, _⟩ := can_read (by omega) t1
      obtain ⟨_, t4, t5, _, _⟩ := (can_spec 2 t).1 t1
      have := dval_lt _ t5
      have : 10 ^ (bare t).length ≤ 10 ^ 2 := Nat.pow_le_pow_right (by decide) t4
      show 1 ≤ numOf t ∧ numOf t ≤ 1000
      omega
  · rw [tb_of] at hr
    rw [hr, c2 hn]
    exact ⟨_, rfl, rfl⟩
end Go.Proofs.YtiblhdhpiicdiaaDoor.M
