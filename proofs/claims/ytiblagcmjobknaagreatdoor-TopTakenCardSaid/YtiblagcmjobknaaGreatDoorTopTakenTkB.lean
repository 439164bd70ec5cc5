import Derived.Test.YtiblagcmjobknaaGreatDoorTopTakenTkA
namespace Go.Proofs.YtiblagcmjobknaaGreatDoor.M
open Go Go.Pu
set_option linter.unusedSimpArgs false
set_option linter.unusedVariables false
def QG (cand : Nat → Bool) (n : Nat) : List Int := ((List.range n).filter cand).map fun (i : Nat) => (i : Int)
def zbP (cand fm : Nat → Bool) (lt : Nat → Nat → Bool) (b : Int) (k : Nat) : Int := if cand k = true then (if b < 0 then (k : Int) else if fm b.toNat = true then b else if fm k = true then (k : Int) else if lt k b.toNat = true then (k : Int) else b) else b
def Jb (cand fm : Nat → Bool) (lt : Nat → Nat → Bool) : Nat → Int
 | 0 => -1
 | n + 1 => zbP cand fm lt (Jb cand fm lt n) n
def minL (lt : Nat → Nat → Bool) : List Int → Int
 | [] => -1
 | c :: t => t.foldl (fun m x => if lt x.toNat m.toNat = true then x else m) c
theorem zgq (lt : Nat → Nat → Bool) {l : List Int} (h : l ≠ []) (x : Int) : minL lt (l ++ [x]) = if lt x.toNat (minL lt l).toNat = true then x else minL lt l := by
 cases l with
 | nil => exact absurd rfl h
 | cons c t =>
  show (t ++ [x]).foldl _ c = _
  rw [List.foldl_append]
  rfl
theorem zaQ (cand : Nat → Bool) (n : Nat) : QG cand (n + 1) = QG cand n ++ if cand n = true then [(n : Int)] else [] := by
 unfold QG
 rw [List.range_succ, List.filter_append, List.map_append]
 by_cases h : cand n = true
 ·simp [h]
 ·simp [h]
theorem zec {cand : Nat → Bool} {n : Nat} {x : Int} (h : x ∈ QG cand n) : ∃ i : Nat, i < n ∧ cand i = true ∧ x = (i : Int) := by
 unfold QG at h
 obtain ⟨i, hi, rfl⟩ := List.mem_map.1 h
 obtain ⟨h1, h2⟩ := List.mem_filter.1 hi
 exact ⟨i, List.mem_range.1 h1, h2, rfl⟩
theorem zem (cand : Nat → Bool) (n : Nat) : (QG cand n).length ≤ n := by
 unfold QG
 rw [List.length_map]
 have := List.length_filter_le cand (List.range n)
 simpa using this
theorem zey (cand : Nat → Bool) : ∀ n, (QG cand n).Pairwise (· < ·)
 | 0 => List.Pairwise.nil
 | n + 1 => by
  rw [zaQ, List.pairwise_append]
  refine ⟨zey cand n, by split <;> simp, fun a ha b hb => ?_⟩
  obtain ⟨i, hi, _, rfl⟩ := zec ha
  split at hb
  ·obtain rfl := List.mem_singleton.1 hb
   omega
  ·cases hb
theorem zex (cand fm : Nat → Bool) (lt : Nat → Nat → Bool) : ∀ n, (∀ i, i < n → cand i = true → fm i = false) → Jb cand fm lt n = minL lt (QG cand n) ∧ ((QG cand n = [] ∧ Jb cand fm lt n = -1) ∨ (QG cand n ≠ [] ∧ ∃ i : Nat, i < n ∧ cand i = true ∧ Jb cand fm lt n = (i : Int)))
 | 0, _ => ⟨rfl, .inl ⟨rfl, rfl⟩⟩
 | n + 1, h => by
  obtain ⟨h1, h2⟩ := zex cand fm lt n fun i hi => h i (by omega)
  have hb : Jb cand fm lt (n + 1) = zbP cand fm lt (Jb cand fm lt n) n := rfl
  rw [hb, zaQ]
  by_cases hc : cand n = true
  ·rw [if_pos hc]
   unfold zbP
   rw [if_pos hc]
   rcases h2 with ⟨e1, e2⟩ | ⟨e1, i, hi, ci, e2⟩
   ·rw [e1, e2, if_pos (by decide)]
    exact ⟨rfl, .inr ⟨by simp, n, Nat.lt_succ_self n, hc, rfl⟩⟩
   ·have f1 : fm (Jb cand fm lt n).toNat = false := by rw [e2]; exact h i (by omega) ci
    rw [if_neg (by rw [e2]; omega), f1, if_neg (by decide), h n (Nat.lt_succ_self n) hc, if_neg (by decide), zgq lt e1, ← h1, Int.toNat_natCast]
    refine ⟨rfl, .inr ⟨by simp, ?_⟩⟩
    split
    ·exact ⟨n, Nat.lt_succ_self n, hc, rfl⟩
    ·exact ⟨i, by omega, ci, e2⟩
  ·rw [if_neg hc, List.append_nil]
   unfold zbP
   rw [if_neg hc]
   refine ⟨h1, h2.imp id ?_⟩
   rintro ⟨e1, i, hi, ci, e2⟩
   exact ⟨e1, i, by omega, ci, e2⟩
theorem zeU (cand fm : Nat → Bool) (lt : Nat → Nat → Bool) (f : Nat) (hc : cand f = true) (hf : fm f = true) (h : ∀ i, i < f → cand i = true → fm i = false) : ∀ n, f < n → Jb cand fm lt n = (f : Int)
 | 0, h0 => absurd h0 (Nat.not_lt_zero _)
 | n + 1, h0 => by
  have hb : Jb cand fm lt (n + 1) = zbP cand fm lt (Jb cand fm lt n) n := rfl
  rw [hb]
  rcases Nat.lt_or_eq_of_le (Nat.le_of_lt_succ h0) with h1 | rfl
  ·rw [zeU cand fm lt f hc hf h n h1]
   unfold zbP
   by_cases hn : cand n = true
   ·rw [if_pos hn, if_neg (by omega), Int.toNat_natCast, if_pos hf]
   ·rw [if_neg hn]
  ·obtain ⟨h1, h2⟩ := zex cand fm lt f h
   unfold zbP
   rw [if_pos hc]
   rcases h2 with ⟨e1, e2⟩ | ⟨e1, i, hi, ci, e2⟩
   ·rw [e2, if_pos (by decide)]
   ·have f1 : fm (Jb cand fm lt f).toNat = false := by rw [e2]; exact h i hi ci
    rw [if_neg (by rw [e2]; omega), f1, if_neg (by decide), if_pos hf]
theorem zij (lt : Nat → Nat → Bool) (cmp : Int → Int → Option Int) (c : Int) (l : List Int) (hlen : (c :: l).length ≤ 1000) (h : ∀ a b, a ∈ c :: l → b ∈ c :: l → b < a → ∃ r, cmp a b = some r ∧ (r < 0 ↔ lt a.toNat b.toNat = true)) (hs : (c :: l).Pairwise (· < ·)) : qK (c :: l) cmp = some (minL lt (c :: l)) := by
 generalize hx : c :: l = x at *
 unfold qK
 have hl : 1 ≤ x.length := by rw [← hx]; simp
 rw [decide_eq_false (by omega), if_neg (by decide)]
 have h0 : idx x 0 = some c := by rw [← hx]; rfl
 rw [h0, Option.bind_some]
 obtain ⟨r, hr, t, rfl, hq⟩ := zar (R := Int) (body := (fun (s17 : Int × Int) => if (decide (s17.2 < (x.length : Int))) = true then Option.bind (Option.bind (idx x s17.2) fun x38 => Option.bind (cmp x38 s17.1) fun x42 => Option.bind (if (decide (x42 < 0)) = true then some x38 else some s17.1) fun s47 => some s47) fun s30 => some (.nx (s30, w64 (s17.2 + 1))) else some (.bk (s17.1, s17.2))))
  (fun s => ∃ k : Nat, 1 ≤ k ∧ k ≤ x.length ∧ s.2 = (k : Int) ∧ s.1 = minL lt (x.take k) ∧ s.1 ∈ x.take k) (fun s => x.length - s.2.toNat) (fun r => ∃ t, r = .fin t ∧ t.1 = minL lt x) (s := (c, 1))
  ⟨1, Nat.le_refl 1, hl, rfl, by rw [← hx]; rfl, by rw [← hx]; simp⟩
  (by
   rintro ⟨m, i⟩ ⟨k, k1, k2, e1, e2, e3⟩
   dsimp only at e1 e2 e3 ⊢
   subst e1
   by_cases hk : k < x.length
   ·have hy : x[k]? = some x[k] := List.getElem?_eq_getElem hk
    have hym : x[k] ∈ x := List.getElem_mem hk
    have hlt : m < x[k] := by
     obtain ⟨j, hj⟩ := List.mem_iff_getElem?.1 e3
     have hj2 := (List.getElem?_eq_some_iff.1 hj).1
     rw [List.length_take] at hj2
     rw [List.getElem?_take_of_lt (by omega)] at hj
     have := List.pairwise_iff_getElem.1 hs j k (by omega) hk (by omega)
     rw [List.getElem?_eq_getElem (by omega)] at hj
     rw [← Option.some.inj hj]
     exact this
    have hw : w64 ((k : Int) + 1) = ((k + 1 : Nat) : Int) := by rw [Zi (by omega) (by omega)]; omega
    obtain ⟨r, r1, r2⟩ := h x[k] m hym (List.mem_of_mem_take e3) hlt
    have htk : x.take (k + 1) = x.take k ++ [x[k]] := zaB hy
    generalize x[k] = y at hy hym hlt r1 r2 htk
    rw [decide_eq_true (show (k : Int) < (x.length : Int) by omega)]
    simp only [if_true, zP, hy, Option.bind_some, r1, hw]
    have hne : x.take k ≠ [] := List.ne_nil_of_mem e3
    have hm : minL lt (x.take (k + 1)) = if lt y.toNat m.toNat = true then y else m := by rw [htk, zgq lt hne, ← e2]
    by_cases hr : r < 0
    ·rw [decide_eq_true hr]
     simp only [if_true, Option.bind_some]
     refine ⟨_, rfl, ⟨k + 1, by omega, by omega, rfl, ?_, ?_⟩, by simp only [Int.toNat_natCast]; omega⟩
     ·rw [hm, if_pos (r2.1 hr)]
     ·rw [htk]; simp
    ·rw [decide_eq_false hr]
     simp only [Bool.false_eq_true, if_false, Option.bind_some]
     refine ⟨_, rfl, ⟨k + 1, by omega, by omega, rfl, ?_, ?_⟩, by simp only [Int.toNat_natCast]; omega⟩
     ·rw [hm, if_neg (fun h => hr (r2.2 h))]
     ·rw [htk]; exact List.mem_append_left _ e3
   ·rw [decide_eq_false (by omega)]
    simp only [Bool.false_eq_true, if_false]
    refine ⟨_, rfl, _, rfl, ?_⟩
    rw [List.take_of_length_le (by omega)] at e2
    exact e2)
 rw [hr, Option.bind_some, Lp.andThen_fin, hq]
def qo (people : List zd) (dt : Nat → Bool) (all : List zb) (w : za) (needs : List zi) (k : Nat) : Bool := match people[k]? with
 | some p => ablB p needs && (dt k && !(decide (w64 (p.capacity - wOf all p.no) < w.weight)))
 | none => false
def fmF (people : List zd) (w : za) (k : Nat) : Bool := match people[k]? with
 | some p => p.no == w.former
 | none => false
def ltF (people : List zd) (all : List zb) (a b : Nat) : Bool := match people[a]?, people[b]? with
 | some p, some q => decide (Jp [cmpI (w64 (wOf all p.no * q.capacity)) (w64 (wOf all q.no * p.capacity)), cmpI (lOf all p.no) (lOf all q.no)] < 0)
 | _, _ => false
theorem zjz {people : List zd} {dt : Nat → Bool} {all : List zb} {d : zT} (hp : Jg people) (hk : zcP people dt all d) (w : za) (needs : List zi) :
  qM d w needs = some (Jb (qo people dt all w needs) (fmF people w) (ltF people all) people.length) := by
 unfold qM
 rw [hk.ppl]
 have hp1 := hp.1
 have step : ∀ (k : Nat) (p : zd), people[k]? = some p → ∃ b1 b2, ZV p needs = some b1 ∧ d.duty[k]? = some b2 ∧ d.weights[k]? = some (wOf all p.no) ∧ qo people dt all w needs k = (b1 && (b2 && !(decide (w64 (p.capacity - wOf all p.no) < w.weight)))) := fun k p h => by
  refine ⟨ablB p needs, dt k, zhG p needs, hk.dty k p h, hk.wei k p h, ?_⟩
  unfold qo
  simp only [h]
 obtain ⟨r, hr, hq⟩ := JO (R := Int) (body := (fun k18 s26 => Option.bind (α := Lp _ _) (Option.bind (idx people (k18 : Int)) fun x51 => Option.bind (idx d.duty (k18 : Int)) fun x73 => Option.bind (if (!x73) = true then (some true) else (Option.bind (idx d.weights (k18 : Int)) fun x84 => some (decide ((w64 (x51.capacity - x84)) < w.weight)))) fun s78 => Option.bind (if s78 = true then (some true) else (Option.bind (ZV x51 needs) fun x94 => some (!x94))) fun s90 => if s90 = true then some (.fin s26) else if (x51.no == w.former) = true then some (.rt (k18 : Int)) else Option.bind (zt 17592186044416 s26 ([(k18 : Int)] : List Int)) fun x109 => some (.fin x109)) fun o41 => o41.andThen (fun y => some (.rt y)) fun s42 => some (.nx s42)))
  people.length (fun k s => s = QG (qo people dt all w needs) k ∧ ∀ i, i < k → qo people dt all w needs i = true → fmF people w i = false)
  (fun r => (∃ f : Nat, r = .rt (f : Int) ∧ f < people.length ∧ qo people dt all w needs f = true ∧ fmF people w f = true ∧ ∀ i, i < f → qo people dt all w needs i = true → fmF people w i = false) ∨ (r = .fin (QG (qo people dt all w needs) people.length) ∧ ∀ i, i < people.length → qo people dt all w needs i = true → fmF people w i = false))
  (s := []) ⟨rfl, fun i h => absurd h (Nat.not_lt_zero _)⟩
  (by
   rintro k s hkn ⟨rfl, hI⟩
   have hx : people[k]? = some people[k] := List.getElem?_eq_getElem hkn
   generalize people[k] = p at hx
   obtain ⟨b1, b2, e1, e2, e3, e4⟩ := step k p hx
   have hf : fmF people w k = (p.no == w.former) := by unfold fmF; simp only [hx]
   have hs90 : Option.bind (if (!b2) = true then (some true) else (Option.bind (some (wOf all p.no)) fun x84 => some (decide ((w64 (p.capacity - x84)) < w.weight)))) (fun s78 => (if s78 = true then (some true) else (Option.bind (some b1) fun x94 => some (!x94)))) = some (!(qo people dt all w needs k)) := by
    rw [e4]
    cases b2
    ·cases b1 <;> rfl
    ·simp only [Bool.not_true, Bool.false_eq_true, if_false, Option.bind_some, Bool.true_and]
     cases decide (w64 (p.capacity - wOf all p.no) < w.weight) <;> cases b1 <;> rfl
   simp only [zP, hx, e2, e3, e1, Option.bind_some]
   rw [← Option.bind_assoc]
   rw [Option.bind_some] at hs90
   simp only [Option.bind_some] at hs90 ⊢
   rw [hs90, Option.bind_some]
   by_cases hc : qo people dt all w needs k = true
   ·rw [hc]
    simp only [Bool.not_true, Bool.false_eq_true, if_false]
    by_cases hn : (p.no == w.former) = true
    ·rw [if_pos hn]
     exact ⟨.rt (k : Int), rfl, .inl ⟨k, rfl, hkn, hc, by rw [hf]; exact hn, hI⟩⟩
    ·rw [if_neg hn]
     have hl := zem (qo people dt all w needs) k
     unfold zt
     rw [if_pos (by simp; omega)]
     refine ⟨.nx _, rfl, ?_, fun i hi ci => ?_⟩
     ·rw [zaQ, if_pos hc]
     ·rcases Nat.lt_or_eq_of_le (Nat.le_of_lt_succ hi) with h1 | rfl
      ·exact hI i h1 ci
      ·rw [hf]; simpa using hn
   ·rw [Bool.not_eq_true] at hc
    rw [hc]
    simp only [Bool.not_false, if_true]
    refine ⟨.nx _, rfl, ?_, fun i hi ci => ?_⟩
    ·rw [zaQ, hc, if_neg (by decide), List.append_nil]
    ·rcases Nat.lt_or_eq_of_le (Nat.le_of_lt_succ hi) with h1 | rfl
     ·exact hI i h1 ci
     ·rw [hc] at ci; cases ci)
  (by
   rintro s ⟨rfl, h⟩
   exact .inr ⟨rfl, h⟩)
 rw [hr, Option.bind_some]
 rcases hq with ⟨f, rfl, f1, f2, f3, f4⟩ | ⟨rfl, hno⟩
 ·rw [zeU _ _ _ f f2 f3 f4 _ f1]
  rfl
 ·rw [Lp.andThen_fin]
  obtain ⟨h1, h2⟩ := zex (qo people dt all w needs) (fmF people w) (ltF people all) people.length hno
  rcases h2 with ⟨e1, e2⟩ | ⟨e1, _⟩
  ·rw [e1, e2]
   rfl
  ·have hl := zem (qo people dt all w needs) people.length
   have hso := zey (qo people dt all w needs) people.length
   have hme : ∀ x ∈ QG (qo people dt all w needs) people.length, ∃ i : Nat, i < people.length ∧ x = (i : Int) := fun x hx => by
    obtain ⟨i, hi, _, e⟩ := zec hx
    exact ⟨i, hi, e⟩
   rw [h1]
   generalize QG (qo people dt all w needs) people.length = x at *
   cases x with
   | nil => exact absurd rfl e1
   | cons c l =>
    rw [if_neg (by simp; omega), zij (ltF people all) _ c l (by omega) _ hso]
    ·rfl
    ·intro a b ha hb hlt
     obtain ⟨i, hi, rfl⟩ := hme a ha
     obtain ⟨j, hj, rfl⟩ := hme b hb
     have hx : people[i]? = some people[i] := List.getElem?_eq_getElem hi
     have hy : people[j]? = some people[j] := List.getElem?_eq_getElem hj
     generalize people[i] = p at hx
     generalize people[j] = q at hy
     unfold jw
     rw [hk.ppl]
     simp only [zP, hx, hy, Option.bind_some, hk.wei i p hx, hk.wei j q hy, hk.lat i p hx, hk.lat j q hy, zkb, zel]
     refine ⟨_, rfl, ?_⟩
     have hno2 := (hp.2 i p hx).2.2.2 j q (by omega) hy
     unfold ltF
     simp only [Int.toNat_natCast, hx, hy, decide_eq_true_eq]
     have e3 : cmpI p.no q.no = 1 := by unfold cmpI; rw [if_neg (by omega), if_pos hno2]
     rw [e3]
     generalize cmpI (w64 (wOf all p.no * q.capacity)) (w64 (wOf all q.no * p.capacity)) = u
     generalize cmpI (lOf all p.no) (lOf all q.no) = v
     simp only [Jp]
     by_cases hu : u ≠ 0
     ·rw [if_pos hu, if_pos hu]
     ·rw [if_neg hu, if_neg hu]
      by_cases hv : v ≠ 0
      ·rw [if_pos hv, if_pos hv]
      ·rw [if_neg hv, if_neg hv]
       simp
end Go.Proofs.YtiblagcmjobknaaGreatDoor.M
namespace Go.Proofs.YtiblagcmjobknaaGreatDoor.M
open Go Go.Pu
set_option linter.unusedSimpArgs false
set_option linter.unusedVariables false
theorem zbk (l : List za) : (qW l).Perm (jS l.length) := List.mergeSort_perm _ _
theorem zdq (l : List za) : (qW l).length = l.length := by rw [(zbk l).length_eq, zek]
theorem zik (n : Nat) : (jS n).Nodup := by
 unfold jS
 exact List.pairwise_map.2 (List.nodup_range.imp fun h e => h (Int.ofNat.inj e))
theorem zet {l : List za} {k : Nat} {x : Int} (h : (qW l)[k]? = some x) : ∃ (j : Nat) (w : za), x = (j : Int) ∧ j < l.length ∧ l[j]? = some w := by
 obtain ⟨j, hj, rfl⟩ := zgI ((zbk l).mem_iff.1 (List.mem_of_getElem? h))
 exact ⟨j, l[j], rfl, hj, List.getElem?_eq_getElem hj⟩
theorem zfs {l : List za} {i k : Nat} {x : Int} (h1 : (qW l)[i]? = some x) (h2 : (qW l)[k]? = some x) : i = k := by
 have hn : (qW l).Nodup := (zbk l).nodup_iff.2 (zik _)
 obtain ⟨a1, a2⟩ := List.getElem?_eq_some_iff.1 h1
 obtain ⟨b1, b2⟩ := List.getElem?_eq_some_iff.1 h2
 rcases Nat.lt_trichotomy i k with h | h | h
 ·exact absurd (a2.trans b2.symm) (List.pairwise_iff_getElem.1 hn i k a1 b1 h)
 ·exact h
 ·exact absurd (b2.trans a2.symm) (List.pairwise_iff_getElem.1 hn k i b1 a1 h)
theorem zjm {l : List za} {j : Nat} (h : j < l.length) : ∃ i : Nat, i < l.length ∧ (qW l)[i]? = some (j : Int) := by
 have hm : (j : Int) ∈ jS l.length := List.mem_of_getElem? (by rw [zjO, if_pos h])
 obtain ⟨i, hi⟩ := List.mem_iff_getElem?.1 ((zbk l).mem_iff.2 hm)
 exact ⟨i, by rw [← zdq]; exact (List.getElem?_eq_some_iff.1 hi).1, hi⟩
theorem zhJ {people : List zd} {i : Nat} {p : zd} (hi : people[i]? = some p) : 0 ≤ pos people p.no := by
 unfold pos
 cases hf : people.findIdx? (fun q => q.no == p.no) with
 | none =>
  have := List.findIdx?_eq_none_iff.1 hf p (List.mem_of_getElem? hi)
  simp at this
 | some j => dsimp only; omega
section
variable {people : List zd} {dt : Nat → Bool} {all : List zb} {d : zT} {w : za} {needs : List zi}
theorem ziS : ∀ n, (Jb (qo people dt all w needs) (fmF people w) (ltF people all) n = -1 ∧ ∀ k, k < n → qo people dt all w needs k = false) ∨ ∃ i : Nat, i < n ∧ qo people dt all w needs i = true ∧ Jb (qo people dt all w needs) (fmF people w) (ltF people all) n = (i : Int)
 | 0 => .inl ⟨rfl, fun k h => absurd h (Nat.not_lt_zero k)⟩
 | n + 1 => by
  have hb : Jb (qo people dt all w needs) (fmF people w) (ltF people all) (n + 1) = zbP (qo people dt all w needs) (fmF people w) (ltF people all) (Jb (qo people dt all w needs) (fmF people w) (ltF people all) n) n := rfl
  have ih := ziS n
  rw [hb]
  unfold zbP
  by_cases hc : qo people dt all w needs n = true
  ·rw [if_pos hc]
   have nw : ∃ i : Nat, i < n + 1 ∧ qo people dt all w needs i = true ∧ (n : Int) = (i : Int) := ⟨n, Nat.lt_succ_self n, hc, rfl⟩
   rcases ih with ⟨e, _⟩ | ⟨i, h1, h2, e⟩
   ·rw [e, if_pos (by decide)]
    exact .inr nw
   ·have old : ∃ j : Nat, j < n + 1 ∧ qo people dt all w needs j = true ∧ (i : Int) = (j : Int) := ⟨i, by omega, h2, rfl⟩
    rw [e]
    right
    split
    ·exact nw
    ·split
     ·exact old
     ·split
      ·exact nw
      ·split
       ·exact nw
       ·exact old
  ·rw [if_neg hc]
   rw [Bool.not_eq_true] at hc
   rcases ih with ⟨e, h⟩ | ⟨i, h1, h2, e⟩
   ·refine .inl ⟨e, fun k hk => ?_⟩
    rcases Nat.lt_or_eq_of_le (Nat.le_of_lt_succ hk) with h1 | rfl
    ·exact h k h1
    ·exact hc
   ·exact .inr ⟨i, by omega, h2, e⟩
theorem zgA {k : Nat} (ho : AllOK people all) (hp : Jg people) : qo people dt all w needs k = true ↔ ∃ p, people[k]? = some p ∧ ablB p needs = true ∧ dt k = true ∧ w.weight ≤ p.capacity - wOf all p.no := by
 unfold qo
 cases h : people[k]? with
 | none => simp
 | some p =>
  have h1 := (hp.2 k p h).2.1
  have h2 := ho.bnd p.no
  dsimp only
  rw [Zi (by omega) (by omega)]
  simp only [Bool.and_eq_true, Bool.not_eq_true', decide_eq_false_iff_not, Option.some.injEq]
  constructor
  ·rintro ⟨a, b, c⟩
   exact ⟨p, rfl, a, b, by omega⟩
  ·rintro ⟨_, rfl, a, b, c⟩
   exact ⟨a, b, by omega⟩
theorem zku (hp : Jg people) (hk : zcP people dt all d) {i : Nat} {p : zd} (hi : people[i]? = some p) (n m : Int) (h : zb) (h1 : h.person = p.no) (h2 : h.weight = n) (h3 : h.since = m) :
  zcP people dt (all ++ [h]) (⟨d.people, d.duty, d.weights.set i (wOf all p.no + n), d.latest.set i (if lOf all p.no < m then m else lOf all p.no)⟩ : zT) := by
 have hil := (List.getElem?_eq_some_iff.1 hi).1
 refine ⟨hk.ppl, hk.dty, by simpa using hk.wlen, fun j q hq => ?_, by simpa using hk.llen, fun j q hq => ?_⟩
 ·dsimp only
  rw [List.getElem?_set, zfe]
  by_cases hij : i = j
  ·subst hij
   rw [hi] at hq
   cases hq
   rw [if_pos rfl, if_pos (by rw [hk.wlen]; exact hil), if_pos h1, h2]
  ·rw [if_neg hij, hk.wei j q hq, if_neg (fun e => hij (zbq hp hi hq (h1.symm.trans e))), Int.add_zero]
 ·dsimp only
  rw [List.getElem?_set, zhC]
  by_cases hij : i = j
  ·subst hij
   rw [hi] at hq
   cases hq
   rw [if_pos rfl, if_pos (by rw [hk.llen]; exact hil), if_pos h1, h3]
  ·rw [if_neg hij, hk.lat j q hq, if_neg (fun e => hij (zbq hp hi hq (h1.symm.trans e)))]
end
def zje (people : List zd) (dt : Nat → Bool) (steps : List zk) (m : Int) (w : za) (h : zb) : Prop :=
 h.ticket = w.ticket ∧ h.weight = w.weight ∧ h.since = m ∧ ∃ (j : Nat) (p : zd), people[j]? = some p ∧ h.person = p.no ∧ dt j = true ∧ ablB p (qi w steps m) = true
structure Run (people : List zd) (dt : Nat → Bool) (steps : List zk) (m : Int) (held : List zb) (waiting : List za) (k : Nat) (tk : List Bool) (out : List zb) (d : zT) : Prop where
 desk : zcP people dt (held ++ out) d
 ok : AllOK people (held ++ out)
 len : tk.length = waiting.length
 few : out.length ≤ k
 given : ∀ h ∈ out, ∃ (i j : Nat) (w : za), i < k ∧ (qW waiting)[i]? = some (j : Int) ∧ waiting[j]? = some w ∧ tk[j]? = some true ∧ zje people dt steps m w h
 apart : (held ++ out).Pairwise (fun a b => a.ticket ≠ b.ticket)
 cap : (∀ (j : Nat) (p : zd), people[j]? = some p → wOf held p.no ≤ p.capacity) → ∀ (j : Nat) (p : zd), people[j]? = some p → wOf (held ++ out) p.no ≤ p.capacity
 still : ∀ (j : Nat) (p : zd), people[j]? = some p → dt j = false → wOf (held ++ out) p.no = wOf held p.no
 left : ∀ (i j : Nat) (w : za), i < k → (qW waiting)[i]? = some (j : Int) → waiting[j]? = some w → tk[j]? = some false → ∀ (q : Nat) (p : zd), people[q]? = some p → dt q = true → ablB p (qi w steps m) = true → p.capacity - wOf (held ++ out) p.no < w.weight
 yet : ∀ (i j : Nat), k ≤ i → (qW waiting)[i]? = some (j : Int) → tk[j]? = some false
theorem zlf {people : List zd} {dt : Nat → Bool} {held : List zb} {waiting : List za} (steps : List zk) {m : Int} (hm : 0 ≤ m ∧ m ≤ 3000000) (hp : Jg people) (hw : zbt waiting) (hh : AllOK people held) (hl : held.length ≤ 400)
  (ha : held.Pairwise (fun a b => a.ticket ≠ b.ticket)) (hap : ∀ h ∈ held, ∀ w ∈ waiting, h.ticket ≠ w.ticket) {d : zT} (hd : zcP people dt held d) :
  ∃ tk out dk, zE (R := List zb × List za) (fun k49 s67 => Option.bind (Option.bind (idx (qW waiting) (k49 : Int)) fun x112 => Option.bind (idx waiting x112) fun x117 => Option.bind (QM x117 steps m) fun x144 => Option.bind (qM s67.2.2 x117 x144) fun x152 => if (decide (x152 < 0)) = true then some (s67.1, s67.2.1, s67.2.2) else Option.bind (idx s67.1 x112) fun x158 => Option.bind (setI s67.1 x112 true) fun x163 => Option.bind (idx s67.2.2.weights x152) fun x167 => Option.bind (setI s67.2.2.weights x152 (w64 (x167 + x117.weight))) fun x180 => Option.bind (idx s67.2.2.latest x152) fun x184 => Option.bind (setI s67.2.2.latest x152 (if x184 < m then m else x184)) fun x196 => Option.bind (idx people x152) fun x204 => Option.bind (zt 4398046511104 s67.2.1 ([(⟨x117.ticket, x204.no, x117.weight, m⟩ : zb)] : List zb)) fun x215 => some (x163, x215, (⟨s67.2.2.people, s67.2.2.duty, x180, x196⟩ : zT))) fun s93 => some (.nx (s93.1, s93.2.1, s93.2.2))) (qW waiting).length 0 (List.replicate waiting.length false, ([] : (List zb)), d) = some (.fin (tk, out, dk)) ∧
   Run people dt steps m held waiting waiting.length tk out dk := by
 obtain ⟨⟨tk, out, dk⟩, h1, h2⟩ := Ze (R := List zb × List za) (b := fun k49 s67 => Option.bind (Option.bind (idx (qW waiting) (k49 : Int)) fun x112 => Option.bind (idx waiting x112) fun x117 => Option.bind (QM x117 steps m) fun x144 => Option.bind (qM s67.2.2 x117 x144) fun x152 => if (decide (x152 < 0)) = true then some (s67.1, s67.2.1, s67.2.2) else Option.bind (idx s67.1 x112) fun x158 => Option.bind (setI s67.1 x112 true) fun x163 => Option.bind (idx s67.2.2.weights x152) fun x167 => Option.bind (setI s67.2.2.weights x152 (w64 (x167 + x117.weight))) fun x180 => Option.bind (idx s67.2.2.latest x152) fun x184 => Option.bind (setI s67.2.2.latest x152 (if x184 < m then m else x184)) fun x196 => Option.bind (idx people x152) fun x204 => Option.bind (zt 4398046511104 s67.2.1 ([(⟨x117.ticket, x204.no, x117.weight, m⟩ : zb)] : List zb)) fun x215 => some (x163, x215, (⟨s67.2.2.people, s67.2.2.duty, x180, x196⟩ : zT))) fun s93 => some (.nx (s93.1, s93.2.1, s93.2.2)))
  (qW waiting).length (fun k s => Run people dt steps m held waiting k s.1 s.2.1 s.2.2) (s := (List.replicate waiting.length false, ([] : (List zb)), d))
  (by
   refine ⟨by simpa using hd, by simpa using hh, by simp, by simp, (fun h hm => by cases hm), by simpa using ha, fun h => by simpa using h, fun j p _ _ => by simp, fun i j w h => absurd h (Nat.not_lt_zero _), fun i j _ h => ?_⟩
   obtain ⟨j', w, e, hj, _⟩ := zet h
   obtain rfl : j = j' := by omega
   simp [hj])
  (by
   rintro k ⟨tk, out, dk⟩ hk hI
   dsimp only at hI ⊢
   have hx : (qW waiting)[k]? = some (qW waiting)[k] := List.getElem?_eq_getElem hk
   generalize (qW waiting)[k] = x at hx
   obtain ⟨j, w, rfl, hj, hwj⟩ := zet hx
   have hwo := hw.2 j w hj hwj
   have hnd := zeT w steps m hwo.2.1.2.2.2.2 (by have := hwo.2.1.2.2.1; omega)
   have hch := zjz hp hI.desk w (qi w steps m)
   have hat := ziS (people := people) (dt := dt) (all := held ++ out) (w := w) (needs := qi w steps m) people.length
   simp only [zP, hx, hwj, hnd, Option.bind_some, hch]
   generalize Jb (qo people dt (held ++ out) w (qi w steps m)) (fmF people w) (ltF people (held ++ out)) people.length = b at hat
   have keep : ∀ tk' : List Bool, (∀ q : Nat, tk[q]? = some true → tk'[q]? = some true) → ∀ h ∈ out, ∃ (i j : Nat) (w : za), i < k + 1 ∧ (qW waiting)[i]? = some (j : Int) ∧ waiting[j]? = some w ∧ tk'[j]? = some true ∧ zje people dt steps m w h := fun tk' ht h hm => by
    obtain ⟨i, j, v, a1, a2, a3, a4, a5⟩ := hI.given h hm
    exact ⟨i, j, v, by omega, a2, a3, ht j a4, a5⟩
   rcases hat with ⟨rfl, hno⟩ | ⟨i, hi, hc, rfl⟩
   ·have e : decide ((-1 : Int) < 0) = true := by decide
    simp only [e, if_true, Option.bind_some]
    refine ⟨_, rfl, hI.desk, hI.ok, hI.len, by have := hI.few; dsimp only; omega, keep _ fun _ h => h, hI.apart, hI.cap, hI.still, fun i' j' w' h1 h2 h3 h4 q p h5 h6 h7 => ?_, fun i' j' h1 h2 => hI.yet i' j' (by omega) h2⟩
    rcases Nat.lt_or_eq_of_le (Nat.le_of_lt_succ h1) with h8 | rfl
    ·exact hI.left i' j' w' h8 h2 h3 h4 q p h5 h6 h7
    ·rw [hx] at h2
     obtain rfl : j = j' := by have := Option.some.inj h2; omega
     rw [hwj] at h3
     cases h3
     have := hno q (List.getElem?_eq_some_iff.1 h5).1
     rw [← Bool.not_eq_true, zgA hI.ok hp] at this
     refine Int.not_le.1 fun h9 => this ⟨p, h5, h7, h6, h9⟩
   ·obtain ⟨p, hpi, ca, cd, cw⟩ := (zgA hI.ok hp).1 hc
    have e : decide ((i : Int) < 0) = false := decide_eq_false (by omega)
    have hjt : j < tk.length := by rw [hI.len]; exact hj
    have hyj := hI.yet k j (Nat.le_refl _) hx
    have hwl : i < dk.weights.length := by rw [hI.desk.wlen]; exact hi
    have hll : i < dk.latest.length := by rw [hI.desk.llen]; exact hi
    have hb := hI.ok.bnd p.no
    have hwt : (1 ≤ w.weight ∧ w.weight ≤ 20) := hwo.2.1.1
    have hw2 : w64 (wOf (held ++ out) p.no + w.weight) = wOf (held ++ out) p.no + w.weight := Zi (by omega) (by omega)
    have hk2 : k < waiting.length := by rw [zdq] at hk; exact hk
    have hwl2 := hw.1
    have hfew := hI.few
    have hap1 : zt 4398046511104 out [(⟨w.ticket, p.no, w.weight, m⟩ : zb)] = some (out ++ [⟨w.ticket, p.no, w.weight, m⟩]) := by
     unfold zt
     rw [if_pos (by rw [List.length_singleton]; omega)]
    simp only [e, Bool.false_eq_true, if_false, zP, hpi, Option.bind_some, hyj, QC _ _ _ hjt, hI.desk.wei i p hpi, hI.desk.lat i p hpi, hw2, QC _ _ _ hwl, QC _ _ _ hll, hap1]
    refine ⟨_, rfl, ?_⟩
    dsimp only
    have hasc : held ++ (out ++ [(⟨w.ticket, p.no, w.weight, m⟩ : zb)]) = (held ++ out) ++ [⟨w.ticket, p.no, w.weight, m⟩] := (List.append_assoc _ _ _).symm
    have hwo2 : ∀ no, wOf ((held ++ out) ++ [(⟨w.ticket, p.no, w.weight, m⟩ : zb)]) no = wOf (held ++ out) no + if p.no = no then w.weight else 0 := fun no => zfe _ _ no
    have hnew : ∀ h ∈ held ++ out, h.ticket ≠ w.ticket := fun h hm => by
     rcases List.mem_append.1 hm with h1 | h1
     ·exact hap h h1 w (List.mem_of_getElem? hwj)
     ·obtain ⟨i', j', v, a1, a2, a3, a4, a5⟩ := hI.given h h1
      obtain ⟨j2, v', e2, b2, b3⟩ := zet a2
      obtain rfl : j' = j2 := by omega
      obtain rfl : v' = v := Option.some.inj (b3.symm.trans a3)
      have hjj : j' ≠ j := by
       rintro rfl
       have := zfs a2 hx
       omega
      rw [a5.1]
      rcases Nat.lt_or_ge j' j with h2 | h2
      ·exact hwo.2.2 j' v' h2 b3
      ·exact fun e => (hw.2 j' v' b2 b3).2.2 j w (by omega) hwj e.symm
    refine ⟨?_, ?_, by simpa using hI.len, by rw [List.length_append, List.length_singleton]; omega, ?_, ?_, ?_, ?_, ?_, ?_⟩
    ·rw [hasc]
     exact zku hp hI.desk hpi w.weight m _ rfl rfl rfl
    ·rw [hasc]
     refine ⟨by rw [List.length_append, List.length_append, List.length_singleton]; omega, fun h hm => ?_⟩
     rcases List.mem_append.1 hm with h1 | h1
     ·exact hI.ok.2 h h1
     ·rw [List.mem_singleton] at h1
      subst h1
      exact ⟨hwt, zhJ hpi⟩
    ·intro h hm
     have hset : ∀ q : Nat, tk[q]? = some true → (tk.set j true)[q]? = some true := fun q hq => by
      rw [List.getElem?_set]
      by_cases hjq : j = q
      ·subst hjq
       rw [hyj] at hq
       cases hq
      ·rw [if_neg hjq]
       exact hq
     rcases List.mem_append.1 hm with h1 | h1
     ·exact keep _ hset h h1
     ·rw [List.mem_singleton] at h1
      subst h1
      refine ⟨k, j, w, Nat.lt_succ_self k, hx, hwj, ?_, rfl, rfl, rfl, i, p, hpi, rfl, cd, ca⟩
      rw [List.getElem?_set, if_pos rfl, if_pos hjt]
    ·rw [hasc, List.pairwise_append]
     refine ⟨hI.apart, List.pairwise_singleton _ _, fun a ha b hb => ?_⟩
     rw [List.mem_singleton] at hb
     subst hb
     exact hnew a ha
    ·intro h0 q r hq
     rw [hasc, hwo2]
     have h1 := hI.cap h0 q r hq
     by_cases hqr : p.no = r.no
     ·obtain rfl := zbq hp hpi hq hqr
      rw [hpi] at hq
      cases hq
      rw [if_pos rfl]
      omega
     ·rw [if_neg hqr]
      omega
    ·intro q r hq h0
     rw [hasc, hwo2, hI.still q r hq h0]
     have : ¬ p.no = r.no := fun e => by
      obtain rfl := zbq hp hpi hq e
      rw [cd] at h0
      cases h0
     rw [if_neg this, Int.add_zero]
    ·intro i' j' w' h1 h2 h3 h4 q r h5 h6 h7
     rw [hasc, hwo2]
     have hne : j' ≠ j := by
      rintro rfl
      rw [List.getElem?_set, if_pos rfl, if_pos hjt] at h4
      cases h4
     rw [List.getElem?_set, if_neg (Ne.symm hne)] at h4
     have hik : i' ≠ k := by
      rintro rfl
      rw [hx] at h2
      exact hne (by have := Option.some.inj h2; omega)
     have := hI.left i' j' w' (by omega) h2 h3 h4 q r h5 h6 h7
     split <;> omega
    ·intro i' j' h1 h2
     have hne : j' ≠ j := by
      rintro rfl
      have := zfs h2 hx
      omega
     rw [List.getElem?_set, if_neg (Ne.symm hne)]
     exact hI.yet i' j' (by omega) h2)
 rw [zdq] at h2
 exact ⟨tk, out, dk, h1, h2⟩
def zcv (tk : List Bool) (waiting : List za) : List za := (waiting.zip tk).filterMap fun x => if x.2 = true then none else some x.1
theorem zgh {tk : List Bool} {waiting : List za} {w : za} (h : w ∈ zcv tk waiting) : ∃ j : Nat, waiting[j]? = some w ∧ tk[j]? = some false := by
 unfold zcv at h
 obtain ⟨⟨v, b⟩, h1, h2⟩ := List.mem_filterMap.1 h
 obtain ⟨j, hj⟩ := List.mem_iff_getElem?.1 h1
 rw [List.getElem?_zip_eq_some] at hj
 dsimp only at hj h2
 cases b with
 | true => cases h2
 | false =>
  cases h2
  exact ⟨j, hj⟩
theorem zjK (tk : List Bool) (waiting : List za) : (zcv tk waiting).Sublist waiting := by
 unfold zcv
 induction waiting generalizing tk with
 | nil => simp
 | cons w l ih =>
  cases tk with
  | nil => simp
  | cons b tk =>
   rw [List.zip_cons_cons, List.filterMap_cons]
   cases b
   ·exact (ih tk).cons_cons w
   ·exact (ih tk).cons w
theorem zkV {waiting : List za} (hw : zbt waiting) {tk : List Bool} (hl : tk.length = waiting.length) :
  zE (R := List zb × List za) (fun k228 s236 => Option.bind (Option.bind (idx waiting (k228 : Int)) fun x261 => Option.bind (idx tk (k228 : Int)) fun x279 => Option.bind (if (!x279) = true then Option.bind (zq x261.needs) fun x297 => Option.bind (zt 2199023255552 s236 ([(⟨x261.ticket, x261.weight, x261.urgency, x261.since, x261.former, x297⟩ : za)] : List za)) fun x324 => some (x324, (⟨x261.ticket, x261.weight, x261.urgency, x261.since, x261.former, x297⟩ : za)) else some (s236, x261)) fun s285 => some s285.1) fun s252 => some (.nx s252)) waiting.length 0 ([] : (List za)) = some (.fin (zcv tk waiting)) := by
 obtain ⟨t, h1, h2, _⟩ := Ze (R := List zb × List za) (b := fun k228 s236 => Option.bind (Option.bind (idx waiting (k228 : Int)) fun x261 => Option.bind (idx tk (k228 : Int)) fun x279 => Option.bind (if (!x279) = true then Option.bind (zq x261.needs) fun x297 => Option.bind (zt 2199023255552 s236 ([(⟨x261.ticket, x261.weight, x261.urgency, x261.since, x261.former, x297⟩ : za)] : List za)) fun x324 => some (x324, (⟨x261.ticket, x261.weight, x261.urgency, x261.since, x261.former, x297⟩ : za)) else some (s236, x261)) fun s285 => some s285.1) fun s252 => some (.nx s252))
  waiting.length (fun k s => s = ((waiting.zip tk).take k).filterMap (fun x => if x.2 = true then none else some x.1) ∧ s.length ≤ k) (s := []) ⟨rfl, by simp⟩
  (by
   rintro k s hk ⟨rfl, hs⟩
   have hx : waiting[k]? = some waiting[k] := List.getElem?_eq_getElem hk
   have hy : tk[k]? = some tk[k] := List.getElem?_eq_getElem (by omega)
   have hz : (waiting.zip tk)[k]? = some (waiting[k], tk[k]) := by rw [List.getElem?_zip_eq_some]; exact ⟨hx, hy⟩
   have hn := (hw.2 k _ hk hx).2.1.2.2.2.2
   have hw1 := hw.1
   generalize waiting[k] = w at hx hz hn
   generalize tk[k] = b at hy hz
   have et : ((waiting.zip tk).take (k + 1)).filterMap (fun x => if x.2 = true then none else some x.1) = ((waiting.zip tk).take k).filterMap (fun x => if x.2 = true then none else some x.1) ++ (if b = true then none else some w : Option za).toList := by
    rw [List.take_add_one, hz, List.filterMap_append]
    cases b <;> simp
   rw [et]
   generalize ((waiting.zip tk).take k).filterMap (fun x => if x.2 = true then none else some x.1) = l0 at hs
   have hcl : zq w.needs = some w.needs := by
    unfold zq zt
    rw [if_pos (by simp; omega)]
    rfl
   have hap : zt 2199023255552 l0 [w] = some (l0 ++ [w]) := by
    unfold zt
    rw [if_pos (by rw [List.length_singleton]; omega)]
   have hwe : (⟨w.ticket, w.weight, w.urgency, w.since, w.former, w.needs⟩ : za) = w := rfl
   simp only [zP, hx, hy, Option.bind_some, hcl, hwe, hap]
   cases b with
   | true => exact ⟨_, rfl, (List.append_nil _).symm, by dsimp only; omega⟩
   | false => exact ⟨_, rfl, rfl, by rw [List.length_append, List.length_singleton]; omega⟩)
 rw [h1, h2]
 unfold zcv
 have : (waiting.zip tk).take waiting.length = waiting.zip tk := List.take_of_length_le (by rw [List.length_zip]; omega)
 rw [this]
structure Asg (people : List zd) (dt : Nat → Bool) (steps : List zk) (m : Int) (held : List zb) (waiting : List za) (out : List zb) (left : List za) : Prop where
 given : ∀ h ∈ out, ∃ w ∈ waiting, zje people dt steps m w h
 sub : left.Sublist waiting
 gone : ∀ h ∈ out, ∀ w ∈ left, h.ticket ≠ w.ticket
 apart : (held ++ out).Pairwise (fun a b => a.ticket ≠ b.ticket)
 cap : (∀ (j : Nat) (p : zd), people[j]? = some p → wOf held p.no ≤ p.capacity) → ∀ (j : Nat) (p : zd), people[j]? = some p → wOf (held ++ out) p.no ≤ p.capacity
 still : ∀ (j : Nat) (p : zd), people[j]? = some p → dt j = false → wOf (held ++ out) p.no = wOf held p.no
 left : ∀ w ∈ left, ∀ (q : Nat) (p : zd), people[q]? = some p → dt q = true → ablB p (qi w steps m) = true → p.capacity - wOf (held ++ out) p.no < w.weight
 few : out.length ≤ waiting.length
theorem zji {R : ze} (hd : zef R.assigner.people R.assigner.cals) (haw : R.assigner.away.length = R.assigner.people.length) {held : List zb} {waiting : List za} {m : Int} (hm : 0 ≤ m ∧ m ≤ 3000000) (hw : zbt waiting) (hh : AllOK R.assigner.people held) (hl : held.length ≤ 400)
  (ha : held.Pairwise (fun a b => a.ticket ≠ b.ticket)) (hap : ∀ h ∈ held, ∀ w ∈ waiting, h.ticket ≠ w.ticket) :
  ∃ out left, Qp R held waiting m = some (out, left) ∧ Asg R.assigner.people (zbJ R.assigner.people R.assigner.cals R.assigner.away m) R.assigner.steps m held waiting out left := by
 obtain ⟨d, d1, d2⟩ := zlA hd haw hh m hm
 have hwl := hw.1
 have hm1 : QN 281474976710656 (waiting.length : Int) (false : Bool) = some (List.replicate waiting.length false) := by rw [QN, if_pos (by omega), Int.toNat_natCast]
 obtain ⟨tk, out, dk, r1, r2⟩ := zlf R.assigner.steps hm hd.ppl hw hh hl ha hap d2
 refine ⟨out, zcv tk waiting, ?_, ?_⟩
 ·unfold Qp
  rw [d1, Option.bind_some, hm1, Option.bind_some, zfJ waiting hw, Option.bind_some, r1, Option.bind_some, Lp.andThen_fin]
  dsimp only
  rw [zkV hw r2.len, Option.bind_some, Lp.andThen_fin]
 ·have hleft : ∀ w ∈ zcv tk waiting, ∃ i j : Nat, i < waiting.length ∧ (qW waiting)[i]? = some (j : Int) ∧ waiting[j]? = some w ∧ tk[j]? = some false := fun w h => by
   obtain ⟨j, h1, h2⟩ := zgh h
   obtain ⟨i, h3, h4⟩ := zjm (List.getElem?_eq_some_iff.1 h1).1
   exact ⟨i, j, h3, h4, h1, h2⟩
  refine ⟨fun h hm => ?_, zjK tk waiting, fun h hm w hw2 => ?_, r2.apart, r2.cap, r2.still, fun w hw2 q p h1 h2 h3 => ?_, r2.few⟩
  ·obtain ⟨i, j, w, _, _, h3, _, h5⟩ := r2.given h hm
   exact ⟨w, List.mem_of_getElem? h3, h5⟩
  ·obtain ⟨i, j, v, _, _, h3, h4, h5⟩ := r2.given h hm
   obtain ⟨j', h6, h7⟩ := zgh hw2
   rw [h5.1]
   have hne : j ≠ j' := by rintro rfl; rw [h4] at h7; cases h7
   have l1 := (List.getElem?_eq_some_iff.1 h3).1
   have l2 := (List.getElem?_eq_some_iff.1 h6).1
   rcases Nat.lt_or_ge j j' with h8 | h8
   ·exact (hw.2 j' w l2 h6).2.2 j v h8 h3
   ·exact fun e => (hw.2 j v l1 h3).2.2 j' w (by omega) h6 e.symm
  ·obtain ⟨i, j, h4, h5, h6, h7⟩ := hleft w hw2
   exact r2.left i j w h4 h5 h6 h7 q p h1 h2 h3
end Go.Proofs.YtiblagcmjobknaaGreatDoor.M
namespace Go.Proofs.YtiblagcmjobknaaGreatDoor.M
open Go Go.Pu
set_option linter.unusedSimpArgs false
set_option linter.unusedVariables false
theorem ziJ : ∀ (n : Nat) (l : List Nat), l.Nodup → (∀ x ∈ l, x < n) → l.length ≤ n
 | 0, l, _, h => by
  cases l with
  | nil => simp
  | cons x l => exact absurd (h x (by simp)) (Nat.not_lt_zero x)
 | n + 1, l, hn, h => by
  have h1 := ziJ n (l.erase n) (hn.erase n) fun x hx => by
   have := (hn.mem_erase_iff).1 hx
   have := h x this.2
   omega
  have : l.length ≤ (l.erase n).length + 1 := by
   rw [List.length_erase]
   split <;> omega
  omega
theorem zkC (l : List Int) (hn : l.Nodup) (h : ∀ x ∈ l, 1 ≤ x ∧ x ≤ 400) : l.length ≤ 400 := by
 have := ziJ 400 (l.map fun x => (x - 1).toNat) (List.pairwise_map.2 (List.Pairwise.imp_of_mem (fun {a b} ha hb hab e => hab (by have := h a ha; have := h b hb; omega)) hn)) fun x hx => by
  obtain ⟨y, hy, rfl⟩ := List.mem_map.1 hx
  have := h y hy
  omega
 simpa using this
theorem zjq (a b : List zb) (h : a.length + b.length ≤ 1000) : ZE [a, b] = some (a ++ b) := by
 have e1 : w64 (0 + (a.length : Int)) = (a.length : Int) := by rw [Zi (by omega) (by omega)]; omega
 have e2 : w64 ((a.length : Int) + (b.length : Int)) = (a.length : Int) + (b.length : Int) := by rw [Zi (by omega) (by omega)]
 have d1 : decide ((a.length : Int) < 0) = false := decide_eq_false (by omega)
 have d2 : decide ((a.length : Int) + (b.length : Int) < 0) = false := decide_eq_false (by omega)
 have hg : ZN (α := zb) ((a.length : Int) + (b.length : Int)) = some [] := by
  unfold ZN
  rw [if_pos (by omega)]
 have h1 : zt 4398046511104 ([] : List zb) a = some a := by
  unfold zt
  rw [if_pos (by simp; omega), List.nil_append]
 have h2 : zt 4398046511104 a b = some (a ++ b) := by
  unfold zt
  rw [if_pos (by omega)]
 have i0 : idx [a, b] ((0 : Nat) : Int) = some a := rfl
 have i1 : idx [a, b] ((0 + 1 : Nat) : Int) = some b := rfl
 unfold ZE
 simp only [List.length_cons, List.length_nil, Nat.zero_add, Nat.reduceAdd, zE, i0, i1, Option.bind_some, e1, e2, d1, d2, Bool.false_eq_true, if_false, Lp.andThen_fin, hg, h1, h2]
structure RtOK (people : List zd) (cals : List zg) (steps : List zk) : Prop where
 duty : zef people cals
 st : StOK steps
 sk : ∀ p ∈ people, SkOK p.skills
structure Same (w v : za) : Prop where
 tick : w.ticket = v.ticket
 urg : w.urgency = v.urgency
 since : w.since = v.since
 needs : w.needs = v.needs
 wei : w.weight = v.weight
structure RInv (people : List zd) (cals : List zg) (steps : List zk) (t : Int) (R : ze) : Prop where
 ppl : R.assigner.people = people
 cls : R.assigner.cals = cals
 stp : R.assigner.steps = steps
 awl : R.assigner.away.length = people.length
 few : R.waiting.length ≤ 200
 fine : ∀ w ∈ R.waiting, WkOK w ∧ w.since ≤ t
 held : ∀ h ∈ R.held, (1 ≤ h.weight ∧ h.weight ≤ 20) ∧ 0 ≤ pos people h.person ∧ (0 ≤ h.since ∧ h.since ≤ t) ∧ (1 ≤ h.ticket ∧ h.ticket ≤ 400)
 tick : (R.held.map (·.ticket) ++ R.waiting.map (·.ticket)).Nodup
 cap : ∀ (k : Nat) (p : zd), people[k]? = some p → wOf R.held p.no ≤ p.capacity
 off : ∀ (k : Nat) (p : zd), people[k]? = some p → R.assigner.away[k]? = some true → wOf R.held p.no = 0
 workW : ∀ w ∈ R.waiting, ∃ v, zw R.work w.ticket = some v ∧ Same w v ∧ WkOK v
 workH : ∀ h ∈ R.held, ∃ v, zw R.work h.ticket = some v ∧ v.ticket = h.ticket ∧ v.weight = h.weight ∧ WkOK v ∧ v.since ≤ t
section
variable {people : List zd} {cals : List zg} {steps : List zk} {t m : Int} {R : ze}
theorem RInv.mono (h : RInv people cals steps t R) (hm : t ≤ m) : RInv people cals steps m R :=
 ⟨h.ppl, h.cls, h.stp, h.awl, h.few, fun w hw => ⟨(h.fine w hw).1, Int.le_trans (h.fine w hw).2 hm⟩, fun x hx => ⟨(h.held x hx).1, (h.held x hx).2.1, ⟨(h.held x hx).2.2.1.1, Int.le_trans (h.held x hx).2.2.1.2 hm⟩, (h.held x hx).2.2.2⟩, h.tick, h.cap, h.off, h.workW, fun x hx => by
  obtain ⟨v, a, b, c, d, e⟩ := h.workH x hx
  exact ⟨v, a, b, c, d, Int.le_trans e hm⟩⟩
theorem RInv.now (h : RInv people cals steps t R) (n : Int) : RInv people cals steps t ⟨R.assigner, n, R.waiting, R.held, R.work⟩ :=
 ⟨h.ppl, h.cls, h.stp, h.awl, h.few, h.fine, h.held, h.tick, h.cap, h.off, h.workW, h.workH⟩
theorem RInv.heldA (h : RInv people cals steps t R) : R.held.Pairwise fun a b => a.ticket ≠ b.ticket := List.pairwise_map.1 (List.nodup_append.1 h.tick).1
theorem RInv.waitA (h : RInv people cals steps t R) : R.waiting.Pairwise fun a b => a.ticket ≠ b.ticket := List.pairwise_map.1 (List.nodup_append.1 h.tick).2.1
theorem RInv.cross (h : RInv people cals steps t R) : ∀ x ∈ R.held, ∀ w ∈ R.waiting, x.ticket ≠ w.ticket := fun x hx w hw => (List.nodup_append.1 h.tick).2.2 _ (List.mem_map_of_mem hx) _ (List.mem_map_of_mem hw)
theorem RInv.hlen (h : RInv people cals steps t R) : R.held.length ≤ 400 := by
 have := zkC (R.held.map (·.ticket)) (List.nodup_append.1 h.tick).1 fun x hx => by
  obtain ⟨y, hy, rfl⟩ := List.mem_map.1 hx
  exact (h.held y hy).2.2.2
 simpa using this
theorem RInv.all (h : RInv people cals steps t R) : AllOK people R.held := ⟨by have := h.hlen; omega, fun x hx => ⟨(h.held x hx).1, (h.held x hx).2.1⟩⟩
theorem zli {l : List za} (h1 : l.length ≤ 200) (h2 : ∀ w ∈ l, WkOK w) (h3 : l.Pairwise fun a b => a.ticket ≠ b.ticket) : zbt l := by
 refine ⟨h1, fun j w hj hw => ?_⟩
 have hk := h2 w (List.mem_of_getElem? hw)
 refine ⟨hk.tick, ⟨hk.wei, hk.urg, hk.since, hk.former, hk.needs.len⟩, fun i q hi hq => ?_⟩
 obtain ⟨a1, rfl⟩ := List.getElem?_eq_some_iff.1 hq
 obtain ⟨b1, rfl⟩ := List.getElem?_eq_some_iff.1 hw
 exact List.pairwise_iff_getElem.1 h3 i j a1 b1 hi
theorem RInv.wok (h : RInv people cals steps t R) : zbt R.waiting := zli h.few (fun w hw => (h.fine w hw).1) h.waitA
def zdE (people : List zd) (cals : List zg) (steps : List zk) (work : List (Int × za)) (h : zb) : Prop :=
 ∃ v, zw work h.ticket = some v ∧ WkOK v ∧ (0 ≤ h.since ∧ h.since ≤ 3000000) ∧ ∃ (j : Nat) (p : zd), people[j]? = some p ∧ h.person = p.no ∧ onB cals h.since p = true ∧ ablB p (qi v steps h.since) = true
def Idle (people : List zd) (cals : List zg) (steps : List zk) (m : Int) (R : ze) : Prop :=
 ∀ w ∈ R.waiting, ∀ (k : Nat) (p : zd), people[k]? = some p → R.assigner.away[k]? = some false → onB cals m p = true → ablB p (qi w steps m) = true → p.capacity - wOf R.held p.no < w.weight
theorem zhW (ho : RtOK people cals steps) (h : RInv people cals steps t R) (hm : 0 ≤ m ∧ m ≤ 3000000) (htm : t ≤ m) :
  ∃ out R', qr R m = some (out, R') ∧ RInv people cals steps m R' ∧ R'.assigner = R.assigner ∧ R'.now = R.now ∧ R'.work = R.work ∧ R'.held = R.held ++ out ∧ (∀ x ∈ out, zdE people cals steps R.work x) ∧ Idle people cals steps m R' := by
 have hI := h.mono htm
 unfold qr
 by_cases h0 : R.waiting = []
 ·rw [if_pos (by rw [h0]; rfl)]
  exact ⟨[], R, rfl, hI, rfl, rfl, rfl, by simp, (fun x hx => by cases hx), (fun w hw => by rw [h0] at hw; cases hw)⟩
 rw [if_neg (by
  have : 0 < R.waiting.length := List.length_pos_iff.2 h0
  simp
  exact h0)]
 obtain ⟨out, left, e, a⟩ := zji (R := R) (held := R.held) (waiting := R.waiting) (m := m) (by rw [h.ppl, h.cls]; exact ho.duty) (by rw [h.ppl]; exact h.awl) hm h.wok (by rw [h.ppl]; exact h.all) h.hlen h.heldA h.cross
 rw [h.ppl, h.cls, h.stp] at a
 have hfew := h.few
 have hlen := h.hlen
 have hof := a.few
 rw [e, Option.bind_some]
 dsimp only
 rw [zjq _ _ (by omega), Option.bind_some]
 have sub : ∀ w ∈ left, w ∈ R.waiting := fun w hw => a.sub.subset hw
 have dut : ∀ (j : Nat) (p : zd), people[j]? = some p → zbJ people cals R.assigner.away m j = true → onB cals m p = true ∧ R.assigner.away[j]? = some false := fun j p hj hd => by
  unfold zbJ at hd
  rw [hj] at hd
  cases ha : R.assigner.away[j]? with
  | none => rw [ha] at hd; cases hd
  | some b =>
   rw [ha] at hd
   simp only [Bool.and_eq_true, Bool.not_eq_true'] at hd
   exact ⟨hd.1, by rw [hd.2]⟩
 have giv : ∀ x ∈ out, ∃ w ∈ R.waiting, x.ticket = w.ticket ∧ x.weight = w.weight ∧ x.since = m ∧ ∃ (j : Nat) (p : zd), people[j]? = some p ∧ x.person = p.no ∧ onB cals m p = true ∧ R.assigner.away[j]? = some false ∧ ablB p (qi w steps m) = true := fun x hx => by
  obtain ⟨w, hw, b1, b2, b3, j, p, b4, b5, b6, b7⟩ := a.given x hx
  obtain ⟨c1, c2⟩ := dut j p b4 b6
  exact ⟨w, hw, b1, b2, b3, j, p, b4, b5, c1, c2, b7⟩
 refine ⟨out, _, rfl, ⟨hI.ppl, hI.cls, hI.stp, hI.awl, Nat.le_trans a.sub.length_le hfew, fun w hw => hI.fine w (sub w hw), fun x hx => ?_, ?_, a.cap h.cap, fun k p hk hw => ?_, fun w hw => hI.workW w (sub w hw), fun x hx => ?_⟩, rfl, rfl, rfl, rfl, fun x hx => ?_, fun w hw k p hk ha ho1 hab => ?_⟩
 ·rcases List.mem_append.1 hx with h1 | h1
  ·exact hI.held x h1
  ·obtain ⟨w, hw, b1, b2, b3, j, p, b4, b5, b6, b7, b8⟩ := giv x h1
   have hk := (h.fine w hw).1
   exact ⟨by rw [b2]; exact hk.wei, by rw [b5]; exact zhJ b4, by omega, by rw [b1]; exact hk.tick⟩
 ·dsimp only
  rw [List.nodup_append]
  refine ⟨List.pairwise_map.2 a.apart, List.Sublist.nodup (a.sub.map _) (List.nodup_append.1 h.tick).2.1, fun u hu y hy e => ?_⟩
  obtain ⟨x, hx, rfl⟩ := List.mem_map.1 hu
  obtain ⟨w, hw, rfl⟩ := List.mem_map.1 hy
  rcases List.mem_append.1 hx with h1 | h1
  ·exact h.cross x h1 w (sub w hw) e
  ·exact a.gone x h1 w hw e
 ·rw [← h.off k p hk hw]
  refine a.still k p hk ?_
  cases hd : zbJ people cals R.assigner.away m k with
  | false => rfl
  | true =>
   have := (dut k p hk hd).2
   dsimp only at hw
   rw [hw] at this
   cases this
 ·rcases List.mem_append.1 hx with h1 | h1
  ·exact hI.workH x h1
  ·obtain ⟨w, hw, b1, b2, b3, _⟩ := giv x h1
   obtain ⟨v, c1, c2, c3⟩ := h.workW w hw
   exact ⟨v, by rw [b1]; exact c1, by rw [← c2.tick, b1], by rw [← c2.wei, b2], c3, by rw [← c2.since]; exact (hI.fine w hw).2⟩
 ·obtain ⟨w, hw, b1, b2, b3, j, p, b4, b5, b6, b7, b8⟩ := giv x hx
  obtain ⟨v, c1, c2, c3⟩ := h.workW w hw
  refine ⟨v, by rw [b1]; exact c1, c3, by omega, j, p, b4, b5, by rw [b3]; exact b6, ?_⟩
  rw [b3, ← zid c2.since c2.needs]
  exact b8
 ·refine a.left w hw k p hk ?_ hab
  unfold zbJ
  rw [hk]
  dsimp only at ha
  rw [ha]
  simp [ho1]
end
end Go.Proofs.YtiblagcmjobknaaGreatDoor.M
namespace Go.Proofs.YtiblagcmjobknaaGreatDoor.M
open Go Go.Pu
set_option linter.unusedSimpArgs false
set_option linter.unusedVariables false
def NextOK (Ev : Int → Prop) (t s : Int) : Prop := (s = -1 ∨ (t < s ∧ Ev s)) ∧ ∀ u, t < u → u ≤ 3000000 → (s = -1 ∨ u < s) → ¬ Ev u
theorem NextOK.min {Ev Ev2 Ev3 : Int → Prop} {t s v : Int} (ht : 0 ≤ t) (h : NextOK Ev t s) (hv : t < v ∧ Ev2 v) (h2 : ∀ u, t < u → u ≤ 3000000 → u < v → ¬ Ev2 u) (h3 : ∀ u, Ev3 u ↔ Ev u ∨ Ev2 u) : NextOK Ev3 t (if s < 0 ∨ v < s then v else s) := by
 obtain ⟨h0, h1⟩ := h
 by_cases hc : s < 0 ∨ v < s
 ·rw [if_pos hc]
  refine ⟨.inr ⟨hv.1, (h3 v).2 (.inr hv.2)⟩, fun u u1 u2 u3 he => ?_⟩
  rcases (h3 u).1 he with h4 | h4
  ·exact h1 u u1 u2 (by omega) h4
  ·exact h2 u u1 u2 (by omega) h4
 ·rw [if_neg hc]
  refine ⟨h0.imp id fun h => ⟨h.1, (h3 s).2 (.inl h.2)⟩, fun u u1 u2 u3 he => ?_⟩
  rcases (h3 u).1 he with h4 | h4
  ·exact h1 u u1 u2 u3 h4
  ·exact h2 u u1 u2 (by omega) h4
theorem NextOK.skip {Ev Ev2 Ev3 : Int → Prop} {t s : Int} (h : NextOK Ev t s) (h2 : ∀ u, t < u → u ≤ 3000000 → ¬ Ev2 u) (h3 : ∀ u, Ev3 u ↔ Ev u ∨ Ev2 u) : NextOK Ev3 t s := by
 refine ⟨h.1.imp id fun q => ⟨q.1, (h3 s).2 (.inl q.2)⟩, fun u u1 u2 u3 he => ?_⟩
 rcases (h3 u).1 he with h4 | h4
 ·exact h.2 u u1 u2 u3 h4
 ·exact h2 u u1 u2 h4
theorem NextOK.congr {Ev Ev' : Int → Prop} {t s : Int} (h : NextOK Ev t s) (e : ∀ u, Ev u ↔ Ev' u) : NextOK Ev' t s :=
 ⟨h.1.imp id fun q => ⟨q.1, (e s).1 q.2⟩, fun u u1 u2 u3 he => h.2 u u1 u2 u3 ((e u).2 he)⟩
def zcD (c : zg) (u : Int) : Prop := opn c u = true ∧ opn c (u - 1) = false
theorem zkv {c : zg} (hc : zeF c) (m : Int) (hm : 0 ≤ m ∧ m ≤ 3000000) : ∃ v e, Option.bind (Qb c m) (fun x172 => Option.bind (if x172.1 = true then Option.bind (qp c m) fun x192 => some (x192.1, x192.2) else some (m, 0)) fun s177 => Option.bind (if (s177.2 == 0) = true then Option.bind (QJ c s177.1) fun x214 => some (x214.1, x214.2) else some (s177.1, s177.2)) fun s199 => some s199) = some (v, e) ∧
  (e = 0 → m < v ∧ v ≤ 3000000 ∧ zcD c v ∧ ∀ u, m < u → u < v → ¬ zcD c u) ∧ (e ≠ 0 → ∀ u, m < u → u ≤ 3000000 → ¬ zcD c u) := by
 obtain ⟨v, e, h1, h2, h3⟩ : ∃ v e, (if opn c m = true then Option.bind (qp c m) fun x192 => some (x192.1, x192.2) else some (m, 0)) = some (v, e) ∧ (e = 0 → m ≤ v ∧ v ≤ 3000000 ∧ opn c v = false ∧ ∀ u, m < u → u ≤ v → ¬ zcD c u) ∧ (e ≠ 0 → ∀ u, m < u → u ≤ 3000000 → ¬ zcD c u) := by
  by_cases h : opn c m = true
  ·obtain ⟨v, e, a, b, d⟩ := zgf hc m hm
   rw [if_pos h, a]
   refine ⟨v, e, rfl, fun h0 => ?_, fun h0 u h1 h2 h3 => ?_⟩
   ·obtain ⟨b1, b2, b3, b4⟩ := b h0
    refine ⟨b1, b2, b3, fun u u1 u2 hu => ?_⟩
    have := b4 (u - 1) (by omega) (by omega)
    rw [hu.2] at this
    cases this
   ·have := d h0 (u - 1) (by omega) (by omega)
    rw [h3.2] at this
    cases this
  ·rw [if_neg h]
   rw [Bool.not_eq_true] at h
   exact ⟨m, 0, rfl, fun _ => ⟨Int.le_refl _, hm.2, h, fun u h1 h2 => by omega⟩, fun h => absurd rfl h⟩
 rw [zfc hc m hm, Option.bind_some]
 dsimp only
 rw [h1, Option.bind_some]
 dsimp only
 by_cases he : e = 0
 ·obtain ⟨b1, b2, b3, b4⟩ := h2 he
  obtain ⟨v2, e2, a, b, d⟩ := zhs hc v (by omega)
  rw [if_pos (by simpa using he), a]
  refine ⟨v2, e2, rfl, fun h0 => ?_, fun h0 u u1 u2 hu => ?_⟩
  ·obtain ⟨c1, c2, c3, c4⟩ := b h0
   have hlt : v < v2 := by
    rcases Int.lt_or_eq_of_le c1 with h | rfl
    ·exact h
    ·rw [c3] at b3; cases b3
   refine ⟨by omega, c2, ⟨c3, c4 (v2 - 1) (by omega) (by omega)⟩, fun u u1 u2 hu => ?_⟩
   by_cases huv : u ≤ v
   ·exact b4 u u1 huv hu
   ·have := c4 u (by omega) u2
    rw [hu.1] at this
    cases this
  ·by_cases huv : u ≤ v
   ·exact b4 u u1 huv hu
   ·have := d h0 u (by omega) u2
    rw [hu.1] at this
    cases this
 ·rw [if_neg (by simpa using he)]
  exact ⟨v, e, rfl, fun h => absurd h he, fun _ => h3 he⟩
def EvB (people : List zd) (cals : List zg) (away : List Bool) (held : List zb) (n : Nat) (u : Int) : Prop :=
 ∃ (i : Nat) (c : zg) (k : Nat) (p : zd), i < n ∧ cals[i]? = some c ∧ people[k]? = some p ∧ p.calendar = (i : Int) ∧ away[k]? = some false ∧ wOf held p.no < p.capacity ∧ zcD c u
def EvS (steps : List zk) (waiting : List za) (n : Nat) (u : Int) : Prop := ∃ (i : Nat) (w : za) (s : zk), i < n ∧ waiting[i]? = some w ∧ s ∈ steps ∧ u = w.since + s.after
theorem zkJ (people : List zd) (away : List Bool) (ws : List Int) (held : List zb) (i : Nat) (h1 : away.length = people.length) (h2 : ∀ (k : Nat) (p : zd), people[k]? = some p → ws[k]? = some (wOf held p.no)) :
  ∃ v, zE (R := Empty) (fun k86 s92 => Option.bind (Option.bind (idx people (k86 : Int)) fun x113 => Option.bind (if (x113.calendar == (i : Int)) = true then (Option.bind (idx away (k86 : Int)) fun x134 => some (!x134)) else (some false)) fun s133 => Option.bind (if s133 = true then (Option.bind (idx ws (k86 : Int)) fun x141 => some (decide (x141 < x113.capacity))) else (some false)) fun s140 => Option.bind (if s140 = true then some (k86 : Int) else some s92) fun s151 => some s151) fun s106 => some (.nx s106)) people.length 0 (-1) = some (.fin v) ∧
   (v < 0 ↔ ¬ ∃ (k : Nat) (p : zd), people[k]? = some p ∧ p.calendar = (i : Int) ∧ away[k]? = some false ∧ wOf held p.no < p.capacity) := by
 obtain ⟨v, e, hI⟩ := Ze (R := Empty) (b := fun k86 s92 => Option.bind (Option.bind (idx people (k86 : Int)) fun x113 => Option.bind (if (x113.calendar == (i : Int)) = true then (Option.bind (idx away (k86 : Int)) fun x134 => some (!x134)) else (some false)) fun s133 => Option.bind (if s133 = true then (Option.bind (idx ws (k86 : Int)) fun x141 => some (decide (x141 < x113.capacity))) else (some false)) fun s140 => Option.bind (if s140 = true then some (k86 : Int) else some s92) fun s151 => some s151) fun s106 => some (.nx s106))
  people.length (fun n s => (s < 0 ↔ ¬ ∃ (k : Nat) (p : zd), k < n ∧ people[k]? = some p ∧ p.calendar = (i : Int) ∧ away[k]? = some false ∧ wOf held p.no < p.capacity)) (s := -1) ⟨fun _ ⟨k, p, h, _⟩ => absurd h (Nat.not_lt_zero k), fun _ => by decide⟩
  (by
   intro k s hk hI
   have hx : people[k]? = some people[k] := List.getElem?_eq_getElem hk
   have ha : away[k]? = some away[k] := List.getElem?_eq_getElem (by omega)
   generalize people[k] = p at hx
   generalize away[k] = b at ha
   have hw := h2 k p hx
   simp only [zP, hx, ha, hw, Option.bind_some]
   by_cases hg : p.calendar = (i : Int) ∧ b = false ∧ wOf held p.no < p.capacity
   ·obtain ⟨g1, rfl, g3⟩ := hg
    have e1 : (p.calendar == (i : Int)) = true := by simpa using g1
    simp only [e1, if_true, Option.bind_some, Bool.not_false, decide_eq_true g3]
    exact ⟨_, rfl, ⟨fun h => by omega, fun h => absurd ⟨k, p, Nat.lt_succ_self k, hx, g1, ha, g3⟩ h⟩⟩
   ·have e1 : ∃ c : Bool, Option.bind (if (p.calendar == (i : Int)) = true then some (!b) else some false) (fun s133 => (if s133 = true then some (decide (wOf held p.no < p.capacity)) else some false)) = some c ∧ c = false := by
     by_cases q1 : p.calendar = (i : Int)
     ·rw [if_pos (by simpa using q1)]
      cases b with
      | true => exact ⟨_, rfl, rfl⟩
      | false => exact ⟨_, rfl, decide_eq_false fun h => hg ⟨q1, rfl, h⟩⟩
     ·rw [if_neg (by simpa using q1)]
      exact ⟨_, rfl, rfl⟩
    obtain ⟨c, e1, rfl⟩ := e1
    rw [← Option.bind_assoc, e1]
    refine ⟨s, rfl, hI.trans (not_congr ⟨fun ⟨k', p', h, r⟩ => ⟨k', p', by omega, r⟩, fun ⟨k', p', h, r1, r2, r3, r4⟩ => ?_⟩)⟩
    rcases Nat.lt_or_eq_of_le (Nat.le_of_lt_succ h) with h3 | rfl
    ·exact ⟨k', p', h3, r1, r2, r3, r4⟩
    ·rw [hx] at r1
     cases r1
     rw [ha] at r3
     exact absurd ⟨r2, Option.some.inj r3, r4⟩ hg)
 refine ⟨v, e, hI.trans (not_congr ⟨fun ⟨k, p, _, r⟩ => ⟨k, p, r⟩, fun ⟨k, p, r⟩ => ⟨k, p, (List.getElem?_eq_some_iff.1 r.1).1, r⟩⟩)⟩
section
variable {people : List zd} {cals : List zg} {steps : List zk} {t : Int} {R : ze}
theorem zjc (ho : RtOK people cals steps) (h : RInv people cals steps t R) (m : Int) (hm : 0 ≤ m ∧ m ≤ 3000000) : ∃ n, QQ R m = some n ∧ NextOK (EvB people cals R.assigner.away R.held cals.length) m n := by
 unfold QQ
 obtain ⟨ws, w1, w2, w3⟩ := zcL ho.duty.ppl h.all
 rw [h.ppl, h.cls, w1, Option.bind_some]
 obtain ⟨n, e, hI⟩ := Ze (R := Int) (b := fun k28 s34 => Option.bind (Option.bind (idx cals (k28 : Int)) fun x55 => Option.bind (zE (R := Empty) (fun k86 s92 => Option.bind (Option.bind (idx people (k86 : Int)) fun x113 => Option.bind (if (x113.calendar == (k28 : Int)) = true then (Option.bind (idx R.assigner.away (k86 : Int)) fun x134 => some (!x134)) else (some false)) fun s133 => Option.bind (if s133 = true then (Option.bind (idx ws (k86 : Int)) fun x141 => some (decide (x141 < x113.capacity))) else (some false)) fun s140 => Option.bind (if s140 = true then some (k86 : Int) else some s92) fun s151 => some s151) fun s106 => some (.nx s106)) people.length 0 (-1)) fun o83 => o83.andThen (fun y => y.elim) fun s84 => if (decide (s84 < 0)) = true then some s34 else Option.bind (Qb x55 m) fun x172 => Option.bind (if x172.1 = true then Option.bind (qp x55 m) fun x192 => some (x192.1, x192.2) else some (m, 0)) fun s177 => Option.bind (if (s177.2 == 0) = true then Option.bind (QJ x55 s177.1) fun x214 => some (x214.1, x214.2) else some (s177.1, s177.2)) fun s199 => Option.bind (if ((s199.2 == 0) && ((decide (s34 < 0)) || (decide (s199.1 < s34)))) = true then some s199.1 else some s34) fun s225 => some s225) fun s48 => some (.nx s48))
  cals.length (fun k s => NextOK (EvB people cals R.assigner.away R.held k) m s) (s := -1) ⟨.inl rfl, fun u _ _ _ ⟨i, _, _, _, h, _⟩ => Nat.not_lt_zero i h⟩
  (by
   intro k s hk hI
   have hx : cals[k]? = some cals[k] := List.getElem?_eq_getElem hk
   generalize cals[k] = c at hx
   obtain ⟨v, v1, v2⟩ := zkJ people R.assigner.away ws R.held k h.awl w3
   have hc := ho.duty.each k c hx
   have hsplit : ∀ u, EvB people cals R.assigner.away R.held (k + 1) u ↔ EvB people cals R.assigner.away R.held k u ∨ ((∃ (q : Nat) (p : zd), people[q]? = some p ∧ p.calendar = (k : Int) ∧ R.assigner.away[q]? = some false ∧ wOf R.held p.no < p.capacity) ∧ zcD c u) := fun u => by
    constructor
    ·rintro ⟨i, c', q, p, a1, a2, a3, a4, a5, a6, a7⟩
     rcases Nat.lt_or_eq_of_le (Nat.le_of_lt_succ a1) with h3 | rfl
     ·exact .inl ⟨i, c', q, p, h3, a2, a3, a4, a5, a6, a7⟩
     ·rw [hx] at a2
      cases a2
      exact .inr ⟨⟨q, p, a3, a4, a5, a6⟩, a7⟩
    ·rintro (⟨i, c', q, p, a1, r⟩ | ⟨⟨q, p, a3, a4, a5, a6⟩, a7⟩)
     ·exact ⟨i, c', q, p, by omega, r⟩
     ·exact ⟨k, c, q, p, Nat.lt_succ_self k, hx, a3, a4, a5, a6, a7⟩
   rw [zP, hx, Option.bind_some, v1, Option.bind_some, Lp.andThen_fin]
   by_cases hv : v < 0
   ·rw [if_pos (by simpa using hv)]
    refine ⟨s, rfl, hI.skip (fun u _ _ hu => (v2.1 hv) hu.1) hsplit⟩
   ·have hex := Classical.not_not.1 (fun hn => hv (v2.2 hn))
    obtain ⟨u0, e0, s1, s2, s3⟩ := zkv hc m hm
    rw [if_neg (by simpa using hv)]
    have hb : Option.bind (Qb c m) (fun x172 => Option.bind (if x172.1 = true then Option.bind (qp c m) fun x192 => some (x192.1, x192.2) else some (m, 0)) fun s177 => Option.bind (if (s177.2 == 0) = true then Option.bind (QJ c s177.1) fun x214 => some (x214.1, x214.2) else some (s177.1, s177.2)) fun s199 => Option.bind (if ((s199.2 == 0) && ((decide (s < 0)) || (decide (s199.1 < s)))) = true then some s199.1 else some s) fun s225 => some s225)
      = Option.bind (Option.bind (Qb c m) (fun x172 => Option.bind (if x172.1 = true then Option.bind (qp c m) fun x192 => some (x192.1, x192.2) else some (m, 0)) fun s177 => Option.bind (if (s177.2 == 0) = true then Option.bind (QJ c s177.1) fun x214 => some (x214.1, x214.2) else some (s177.1, s177.2)) fun s199 => some s199)) (fun s199 => Option.bind (if ((s199.2 == 0) && ((decide (s < 0)) || (decide (s199.1 < s)))) = true then some s199.1 else some s) fun s225 => some s225) := by
     simp only [Option.bind_assoc, Option.bind_some]
    rw [hb, s1, Option.bind_some]
    dsimp only
    by_cases he : e0 = 0
    ·obtain ⟨a1, a2, a3, a4⟩ := s2 he
     have := hI.min hm.1 (v := u0) (Ev2 := fun u => (∃ (q : Nat) (p : zd), people[q]? = some p ∧ p.calendar = (k : Int) ∧ R.assigner.away[q]? = some false ∧ wOf R.held p.no < p.capacity) ∧ zcD c u) ⟨a1, hex, a3⟩ (fun u u1 u2 u3 hu => a4 u u1 u3 hu.2) hsplit
     refine ⟨_, ?_, this⟩
     subst he
     by_cases hc2 : s < 0 ∨ u0 < s
     ·rw [if_pos hc2, if_pos (by simpa using hc2)]
      rfl
     ·rw [if_neg hc2, if_neg (by simpa using hc2)]
      rfl
    ·have e1 : (e0 == 0) = false := by simpa using he
     rw [e1]
     exact ⟨s, rfl, hI.skip (fun u u1 u2 hu => s3 he u u1 u2 hu.2) hsplit⟩)
 rw [e]
 exact ⟨n, rfl, hI⟩
theorem zkW (ho : RtOK people cals steps) (h : RInv people cals steps t R) (m : Int) (hm : 0 ≤ m ∧ m ≤ 3000000) : ∃ n, qc R m = some n ∧ ((R.waiting = [] ∧ n = -1) ∨ (R.waiting ≠ [] ∧ NextOK (fun u => EvB people cals R.assigner.away R.held cals.length u ∨ EvS steps R.waiting R.waiting.length u) m n)) := by
 unfold qc
 by_cases h0 : R.waiting = []
 ·rw [if_pos (by rw [h0]; rfl)]
  exact ⟨-1, rfl, .inl ⟨h0, rfl⟩⟩
 rw [if_neg (by simp; exact h0)]
 obtain ⟨b, e1, hb⟩ := zjc ho h m hm
 rw [e1, Option.bind_some, h.stp]
 obtain ⟨n, e, hI⟩ := Ze (R := Int) (b := fun k24 s30 => Option.bind (Option.bind (idx R.waiting (k24 : Int)) fun x51 => Option.bind (zE (R := Empty) (fun k72 s78 => Option.bind (Option.bind (idx steps (k72 : Int)) fun x99 => Option.bind (if ((decide (m < (w64 (x51.since + x99.after)))) && ((decide (s78 < 0)) || (decide ((w64 (x51.since + x99.after)) < s78)))) = true then some (w64 (x51.since + x99.after)) else some s78) fun s119 => some s119) fun s92 => some (.nx s92)) steps.length 0 s30) fun o69 => o69.andThen (fun y => y.elim) fun s70 => some s70) fun s44 => some (.nx s44))
  R.waiting.length (fun k s => NextOK (fun u => EvB people cals R.assigner.away R.held cals.length u ∨ EvS steps R.waiting k u) m s) (s := b)
  (hb.congr fun u => ⟨.inl, fun h => h.elim id fun ⟨i, _, _, q, _⟩ => absurd q (Nat.not_lt_zero i)⟩)
  (by
   intro k s hk hI
   have hx : R.waiting[k]? = some R.waiting[k] := List.getElem?_eq_getElem hk
   have hwk := (h.fine _ (List.getElem_mem hk)).1.since
   generalize R.waiting[k] = w at hx hwk
   obtain ⟨v, e2, hJ⟩ := Ze (R := Empty) (b := fun k72 s78 => Option.bind (Option.bind (idx steps (k72 : Int)) fun x99 => Option.bind (if ((decide (m < (w64 (w.since + x99.after)))) && ((decide (s78 < 0)) || (decide ((w64 (w.since + x99.after)) < s78)))) = true then some (w64 (w.since + x99.after)) else some s78) fun s119 => some s119) fun s92 => some (.nx s92))
    steps.length (fun j s => NextOK (fun u => (EvB people cals R.assigner.away R.held cals.length u ∨ EvS steps R.waiting k u) ∨ ∃ (i : Nat) (x : zk), i < j ∧ steps[i]? = some x ∧ u = w.since + x.after) m s) (s := s)
    (hI.congr fun u => ⟨.inl, fun h => h.elim id fun ⟨i, _, q, _⟩ => absurd q (Nat.not_lt_zero i)⟩)
    (by
     intro j s hj hJ
     have hy : steps[j]? = some steps[j] := List.getElem?_eq_getElem hj
     have hst := (ho.st.2 _ (List.getElem_mem hj)).1
     generalize steps[j] = x at hy hst
     have hsplit : ∀ u, ((EvB people cals R.assigner.away R.held cals.length u ∨ EvS steps R.waiting k u) ∨ ∃ (i : Nat) (x : zk), i < j + 1 ∧ steps[i]? = some x ∧ u = w.since + x.after) ↔ ((EvB people cals R.assigner.away R.held cals.length u ∨ EvS steps R.waiting k u) ∨ ∃ (i : Nat) (x : zk), i < j ∧ steps[i]? = some x ∧ u = w.since + x.after) ∨ u = w.since + x.after := fun u => by
      constructor
      ·rintro (a | ⟨i, y, a1, a2, a3⟩)
       ·exact .inl (.inl a)
       ·rcases Nat.lt_or_eq_of_le (Nat.le_of_lt_succ a1) with h3 | rfl
        ·exact .inl (.inr ⟨i, y, h3, a2, a3⟩)
        ·rw [hy] at a2
         cases a2
         exact .inr a3
      ·rintro ((a | ⟨i, y, a1, a2, a3⟩) | a)
       ·exact .inl a
       ·exact .inr ⟨i, y, by omega, a2, a3⟩
       ·exact .inr ⟨j, x, Nat.lt_succ_self j, hy, a⟩
     simp only [zP, hy, Option.bind_some]
     rw [Zi (n := w.since + x.after) (by omega) (by omega)]
     by_cases hlt : m < w.since + x.after
     ·have := hJ.min hm.1 (v := w.since + x.after) (Ev2 := fun u => u = w.since + x.after) ⟨hlt, rfl⟩ (fun u u1 u2 u3 hu => by omega) hsplit
      refine ⟨_, ?_, this⟩
      by_cases hc2 : s < 0 ∨ w.since + x.after < s
      ·rw [if_pos hc2, if_pos (by simp only [Bool.and_eq_true, Bool.or_eq_true, decide_eq_true_eq]; exact ⟨hlt, hc2⟩)]
       rfl
      ·rw [if_neg hc2, if_neg (by simp only [Bool.and_eq_true, Bool.or_eq_true, decide_eq_true_eq]; exact fun h => hc2 h.2)]
       rfl
     ·rw [decide_eq_false hlt]
      exact ⟨s, rfl, hJ.skip (fun u u1 u2 hu => by omega) hsplit⟩)
   rw [zP, hx, Option.bind_some, e2, Option.bind_some, Lp.andThen_fin]
   refine ⟨v, rfl, hJ.congr fun u => ?_⟩
   constructor
   ·rintro ((a | ⟨i, y, z, a1, a2⟩) | ⟨i, y, a1, a2, a3⟩)
    ·exact .inl a
    ·exact .inr ⟨i, y, z, by omega, a2⟩
    ·exact .inr ⟨k, w, y, Nat.lt_succ_self k, hx, List.mem_of_getElem? a2, a3⟩
   ·rintro (a | ⟨i, y, z, a1, a2, a3, a4⟩)
    ·exact .inl (.inl a)
    ·rcases Nat.lt_or_eq_of_le (Nat.le_of_lt_succ a1) with h3 | rfl
     ·exact .inl (.inr ⟨i, y, z, h3, a2, a3, a4⟩)
     ·rw [hx] at a2
      cases a2
      obtain ⟨q, hq⟩ := List.mem_iff_getElem?.1 a3
      exact .inr ⟨q, z, (List.getElem?_eq_some_iff.1 hq).1, hq, a4⟩)
 rw [e]
 exact ⟨n, rfl, .inr ⟨h0, hI⟩⟩
end
end Go.Proofs.YtiblagcmjobknaaGreatDoor.M
