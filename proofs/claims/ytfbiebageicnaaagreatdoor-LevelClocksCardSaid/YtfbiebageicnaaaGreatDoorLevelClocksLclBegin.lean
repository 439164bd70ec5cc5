import Derived.Test.YtfbiebageicnaaaGreatDoorLevelClocksLclBody
import Derived.Test.YtfbiebageicnaaaGreatDoorLevelClocksMapBase
namespace Go.Proofs.YtfbiebageicnaaaGreatDoor.M
open Go Go.Pu
set_option linter.unusedSimpArgs false
set_option linter.unusedVariables false
theorem whileB_eq {S R : Type} (body : S → Option (Ctl S R)) (s : S) : whileB body s = Option.bind (body s) fun x => match x with
    | .nx s' => whileB body s'
    | .bk s' => some (.fin s')
    | .rt r => some (.rt r) := by
  ext r
  rw [whileB_iff]
  constructor
  · rintro ⟨n, hn⟩
    cases n with
    | zero => cases hn
    | succ n =>
      rw [whileN] at hn
      rcases hb : body s with _ | (s' | s' | q)
      · rw [hb] at hn; cases hn
      · rw [hb] at hn
        exact (whileB_iff (body := body)).2 ⟨n, hn⟩
      · rw [hb] at hn; exact hn
      · rw [hb] at hn; exact hn
  · intro h
    rcases hb : body s with _ | (s' | s' | q)
    · rw [hb] at h; cases h
    · rw [hb] at h
      obtain ⟨n, hn⟩ := (whileB_iff (body := body)).1 h
      exact ⟨n + 1, by rw [whileN, hb]; exact hn⟩
    · rw [hb] at h; exact ⟨1, by rw [whileN, hb]; exact h⟩
    · rw [hb] at h; exact ⟨1, by rw [whileN, hb]; exact h⟩
def newR (kind n at_ : Int) (g : level_Target) : level_running := ⟨⟨kind, n, g.minutes, at_, -1, 0, []⟩, g, false⟩
def newT (kind n at_ : Int) (g : level_Target) : portref2_ticking := ⟨⟨kind, n, g.minutes, at_, -1, 0, []⟩, -1, 0, g.calendar⟩
theorem begin_val {p : level_Policy} {n : Int} {cs : List level_running} {at_ kind : Int} {g : level_Target} {b : Bool} (ht : portref2_targetOf p n kind = some (g, b)) (hl : cs.length ≤ 1000000) :
    level_keeper_begin ⟨p, n, cs⟩ at_ kind = some ⟨p, n, if b = true then cs ++ [newR kind n at_ g] else cs⟩ := by
  unfold level_keeper_begin
  rw [target_same, ht, Option.bind_some]
  cases b with
  | false => rfl
  | true =>
    simp only [Bool.not_true, Bool.false_eq_true, if_false, if_true]
    rw [appendOne _ _ (by omega)]
    rfl
def beg2 (x : level_Point) (ts : Tks) : Bool := (x.kind == 2) && ((x.who == 0) && !(ts.any (runT [1, 2])))
def beg3 (ag : Bool) (x : level_Point) (ts : Tks) : Bool := ag && ((x.status != 5) && !(ts.any (runT [3])))
theorem mapA_val (l : List level_Point) (k : Nat) (x : level_Point) (n : Int) (ts : Tks) (ag : Bool) (h0 : k = 0 → ag = true) (h1 : k ≠ 0 → ∃ y, idx l (w64 ((k : Int) - 1)) = some y ∧ ag = portref2_over y.status) :
    mapA l k x (n, ts) = some (mapPut (mapPut (mapPut ([] : List (Int × Bool)) 1 ((k : Int) == 0)) 2 (beg2 x ts)) 3 (beg3 ag x ts)) := by
  unfold mapA beg2 beg3
  simp only [runsT_val, Option.bind_some]
  by_cases hk : k = 0
  · have e : ((k : Int) == 0) = true := by simpa using hk
    rw [h0 hk, e]
    simp only [if_true]
    cases (x.kind == 2) <;> cases (x.who == 0) <;> cases (x.status != 5) <;> simp
  · have e : ((k : Int) == 0) = false := by simpa using hk
    obtain ⟨y, hy, hag⟩ := h1 hk
    rw [hag, e, hy]
    simp only [Bool.false_eq_true, if_false, Option.bind_some]
    cases (x.kind == 2) <;> cases (x.who == 0) <;> cases (x.status != 5) <;> cases (portref2_over y.status) <;> simp
def addT (c : Bool) (ts : Tks) (t : portref2_ticking) : Tks := if c = true then ts ++ [t] else ts
theorem wbody_val {p : level_Policy} {x : level_Point} {n : Int} {ts0 : Tks} {mp : List (Int × Bool)} {k : Int} {ts : Tks} {g : level_Target} {b : Bool} (ht : portref2_targetOf p n k = some (g, b)) (hk : k ≤ 3) (hk0 : 0 ≤ k) (hl : ts.length ≤ 1000000) :
    wbody p x (n, ts0) mp (k, ts) = some (.nx (k + 1, addT ((((mapGet mp k).getD false) && b) && (x.status != 6)) ts (newT k n x.at_ g))) := by
  unfold wbody addT
  rw [if_pos (decide_eq_true hk)]
  show (Option.bind (Option.bind (portref2_targetOf p n k) _) _) = _
  rw [ht, Option.bind_some, w64_id (by omega) (by omega)]
  cases h : ((((mapGet mp k).getD false) && b) && (x.status != 6)) with
  | false =>
    simp only [h, Bool.false_eq_true, if_false]
    rfl
  | true =>
    simp only [h, if_true]
    rw [appendOne _ _ (by omega)]
    rfl
theorem addT_len (c : Bool) (ts : Tks) (t : portref2_ticking) : (addT c ts t).length ≤ ts.length + 1 := by
  unfold addT
  split
  · simp
  · omega
theorem while_val {p : level_Policy} {x : level_Point} {n : Int} {mp : List (Int × Bool)} {ts : Tks} {g1 g2 g3 : level_Target} {b1 b2 b3 : Bool} (h1 : portref2_targetOf p n 1 = some (g1, b1)) (h2 : portref2_targetOf p n 2 = some (g2, b2)) (h3 : portref2_targetOf p n 3 = some (g3, b3)) (hl : ts.length ≤ 100000) :
    whileB (R := Empty) (wbody p x (n, ts) mp) (1, ts) = some (.fin (4, addT ((((mapGet mp 3).getD false) && b3) && (x.status != 6)) (addT ((((mapGet mp 2).getD false) && b2) && (x.status != 6)) (addT ((((mapGet mp 1).getD false) && b1) && (x.status != 6)) ts (newT 1 n x.at_ g1)) (newT 2 n x.at_ g2)) (newT 3 n x.at_ g3))) := by
  rw [whileB_eq, wbody_val h1 (by decide) (by decide) (by omega), Option.bind_some]
  have l1 := addT_len ((((mapGet mp 1).getD false) && b1) && (x.status != 6)) ts (newT 1 n x.at_ g1)
  generalize addT ((((mapGet mp 1).getD false) && b1) && (x.status != 6)) ts (newT 1 n x.at_ g1) = t1 at l1
  show whileB (wbody p x (n, ts) mp) (2, t1) = _
  rw [whileB_eq, wbody_val h2 (by decide) (by decide) (by omega), Option.bind_some]
  have l2 := addT_len ((((mapGet mp 2).getD false) && b2) && (x.status != 6)) t1 (newT 2 n x.at_ g2)
  generalize addT ((((mapGet mp 2).getD false) && b2) && (x.status != 6)) t1 (newT 2 n x.at_ g2) = t2 at l2
  show whileB (wbody p x (n, ts) mp) (3, t2) = _
  rw [whileB_eq, wbody_val h3 (by decide) (by decide) (by omega), Option.bind_some]
  generalize addT ((((mapGet mp 3).getD false) && b3) && (x.status != 6)) t2 (newT 3 n x.at_ g3) = t3
  show whileB (wbody p x (n, ts) mp) (4, t3) = _
  rw [whileB_eq]
  unfold wbody
  rw [if_neg (by show ¬ (decide ((4 : Int) ≤ 3)) = true; decide)]
  rfl
theorem Pair.add {T : Int} {m : Nat} {cs : List level_running} {ts : Tks} (h : Pair (Sm T m) cs ts) (c : Bool) {kind n at_ : Int} {g : level_Target} (hg : c = true → 0 ≤ g.calendar) : Pair (Sm T m) (if c = true then cs ++ [newR kind n at_ g] else cs) (addT c ts (newT kind n at_ g)) := by
  unfold addT
  cases c with
  | false => exact h
  | true => exact h.snoc (Sm.new (hg rfl) T m)
theorem runR_new (kinds : List Int) (kind n at_ : Int) (g : level_Target) : runR kinds (newR kind n at_ g) = (slices_Contains_Lint_int kinds kind).getD false := by
  unfold runR level_keeper_runs_1 newR
  obtain ⟨b, hb⟩ := contains_some kinds kind
  simp only [hb]
  rfl
theorem begin_eq {T : Int} {m : Nat} {cs : List level_running} {ts : Tks} (hp : Pair (Sm T m) cs ts) {p : level_Policy} (hok : ∀ l ∈ p.levels, LOk l) {n : Int} (hn1 : -1 ≤ n) (hn2 : n < p.levels.length) (hl : cs.length ≤ 50000) (l : List level_Point) (k : Nat) (x : level_Point) (before : Option level_Point)
    (h0 : k = 0 → before = none ∧ cs = []) (h1 : k ≠ 0 → ∃ y, idx l (w64 ((k : Int) - 1)) = some y ∧ before = some y) :
    ∃ cs' ts', codeBegin ⟨p, n, cs⟩ x before = some ⟨p, n, cs'⟩ ∧ (∀ (β : Type) (K : Int × Tks → Option β), (Option.bind (mapA l k x (n, ts)) fun s425 => Option.bind (mapB p k x (n, ts) s425) fun s627 => Option.bind (whileB (R := Empty) (wbody p x (n, ts) s627) (1, ts)) fun o671 => o671.andThen (fun y => y.elim) fun s672 => K s672) = K (4, ts')) ∧
      Pair (Sm T m) cs' ts' ∧ cs'.length ≤ cs.length + 3 := by
  obtain ⟨g1, b1, t1, c1⟩ := target_val hok hn1 hn2 1
  obtain ⟨g2, b2, t2, c2⟩ := target_val hok hn1 hn2 2
  obtain ⟨g3, b3, t3, c3⟩ := target_val hok hn1 hn2 3
  have htl : ts.length ≤ 50000 := by rw [← hp.1]; exact hl
  have n12 : (slices_Contains_Lint_int [1, 2] 1).getD false = true := by decide
  have n31 : (slices_Contains_Lint_int [3] 1).getD false = false := by decide
  have n32 : (slices_Contains_Lint_int [3] 2).getD false = false := by decide
  have ecode : ∀ (ag : Bool), (k = 0 → ag = true) → (k ≠ 0 → ∃ y, idx l (w64 ((k : Int) - 1)) = some y ∧ ag = portref2_over y.status) →
      codeBegin ⟨p, n, cs⟩ x before = some ⟨p, n, if (x.status != 6) = true then
        (let d1 := if (((k : Int) == 0) && b1) = true then cs ++ [newR 1 n x.at_ g1] else cs
         let d2 := if (((x.kind == 2) && ((x.who == 0) && !(d1.any (runR [1, 2])))) && b2) = true then d1 ++ [newR 2 n x.at_ g2] else d1
         if ((ag && ((x.status != 5) && !(cs.any (runR [3])))) && b3) = true then d2 ++ [newR 3 n x.at_ g3] else d2) else cs⟩ := by
    intro ag a0 a1
    unfold codeBegin
    cases hs : (x.status != 6) with
    | false => rfl
    | true =>
      simp only [if_true]
      have e1 : (if before.isNone = true then Option.bind (level_keeper_begin ⟨p, n, cs⟩ x.at_ 1) fun x115 => some x115 else some ⟨p, n, cs⟩) = some ⟨p, n, if (((k : Int) == 0) && b1) = true then cs ++ [newR 1 n x.at_ g1] else cs⟩ := by
        by_cases hk : k = 0
        · rw [(h0 hk).1, if_pos (show (none : Option level_Point).isNone = true from rfl), begin_val t1 (by omega), Option.bind_some, hk]
          rfl
        · obtain ⟨y, _, hb⟩ := h1 hk
          have e : ((k : Int) == 0) = false := by simpa using hk
          rw [hb, if_neg (show ¬ (some y).isNone = true by simp), e]
          rfl
      rw [e1, Option.bind_some]
      have ld1 : (if (((k : Int) == 0) && b1) = true then cs ++ [newR 1 n x.at_ g1] else cs).length ≤ cs.length + 1 := by split <;> simp
      have r3 : ((if (((k : Int) == 0) && b1) = true then cs ++ [newR 1 n x.at_ g1] else cs).any (runR [3])) = cs.any (runR [3]) := by
        split
        · rw [List.any_append]
          simp [runR_new, n31]
        · rfl
      generalize (if (((k : Int) == 0) && b1) = true then cs ++ [newR 1 n x.at_ g1] else cs) = d1 at ld1 r3
      have e2 : (if (x.kind == 2) = true then (if (x.who == 0) = true then (Option.bind (level_keeper_runs ⟨p, n, d1⟩ ([1, 2] : List Int)) fun x145 => some (!x145)) else (some false)) else (some false)) = some ((x.kind == 2) && ((x.who == 0) && !(d1.any (runR [1, 2])))) := by
        rw [runs_val, Option.bind_some]
        cases (x.kind == 2) <;> cases (x.who == 0) <;> simp
      rw [e2, Option.bind_some]
      have e3 : (if ((x.kind == 2) && ((x.who == 0) && !(d1.any (runR [1, 2])))) = true then Option.bind (level_keeper_begin ⟨p, n, d1⟩ x.at_ 2) fun x181 => some x181 else some ⟨p, n, d1⟩) = some ⟨p, n, if (((x.kind == 2) && ((x.who == 0) && !(d1.any (runR [1, 2])))) && b2) = true then d1 ++ [newR 2 n x.at_ g2] else d1⟩ := by
        cases ((x.kind == 2) && ((x.who == 0) && !(d1.any (runR [1, 2])))) with
        | false => rfl
        | true =>
          rw [if_pos (show true = true from rfl), begin_val t2 (by omega)]
          simp
      rw [e3, Option.bind_some]
      have ld2 : (if (((x.kind == 2) && ((x.who == 0) && !(d1.any (runR [1, 2])))) && b2) = true then d1 ++ [newR 2 n x.at_ g2] else d1).length ≤ cs.length + 2 := by
        split
        · simp; omega
        · omega
      have r4 : ((if (((x.kind == 2) && ((x.who == 0) && !(d1.any (runR [1, 2])))) && b2) = true then d1 ++ [newR 2 n x.at_ g2] else d1).any (runR [3])) = cs.any (runR [3]) := by
        rw [← r3]
        split
        · rw [List.any_append]
          simp [runR_new, n32]
        · rfl
      generalize (if (((x.kind == 2) && ((x.who == 0) && !(d1.any (runR [1, 2])))) && b2) = true then d1 ++ [newR 2 n x.at_ g2] else d1) = d2 at ld2 r4
      have e4 : (Option.bind (if before.isNone = true then (some true) else (Option.bind (before) fun x196 => some (x196.status == 5))) fun s195 => (if s195 = true then (some true) else (Option.bind (before) fun x204 => some (x204.status == 6)))) = some ag := by
        by_cases hk : k = 0
        · rw [(h0 hk).1, a0 hk]
          rfl
        · obtain ⟨y, hy, hb⟩ := h1 hk
          obtain ⟨z, hz, hag⟩ := a1 hk
          rw [hy] at hz
          obtain rfl := Option.some.inj hz
          rw [hb, hag]
          unfold portref2_over
          simp only [Option.isNone_some, Bool.false_eq_true, if_false, Option.bind_some]
          cases (y.status == 5) <;> simp
      obtain ⟨s1, f1, f2⟩ := Option.bind_eq_some_iff.1 e4
      rw [f1, Option.bind_some, f2, Option.bind_some]
      have e5 : (if ag = true then (if (x.status != 5) = true then (Option.bind (level_keeper_runs ⟨p, n, d2⟩ ([3] : List Int)) fun x226 => some (!x226)) else (some false)) else (some false)) = some (ag && ((x.status != 5) && !(cs.any (runR [3])))) := by
        rw [runs_val, Option.bind_some, r4]
        cases ag <;> cases (x.status != 5) <;> simp
      rw [e5, Option.bind_some]
      cases (ag && ((x.status != 5) && !(cs.any (runR [3])))) with
      | false => rfl
      | true =>
        simp only [if_true]
        rw [begin_val t3 (by omega)]
        simp
  obtain ⟨ag, a0, a1⟩ : ∃ ag : Bool, (k = 0 → ag = true) ∧ (k ≠ 0 → ∃ y, idx l (w64 ((k : Int) - 1)) = some y ∧ ag = portref2_over y.status) := by
    by_cases hk : k = 0
    · exact ⟨true, fun _ => rfl, fun h => absurd hk h⟩
    · obtain ⟨y, hy, _⟩ := h1 hk
      exact ⟨portref2_over y.status, fun h => absurd h hk, fun _ => ⟨y, hy, rfl⟩⟩
  have eA := mapA_val l k x n ts ag a0 a1
  have hC := ecode ag a0 a1
  generalize hkk : ((k : Int) == 0) = kz at eA hC
  have eB : mapB p k x (n, ts) (mapPut (mapPut (mapPut ([] : List (Int × Bool)) 1 kz) 2 (beg2 x ts)) 3 (beg3 ag x ts)) = some (if ((kz && b1) && (x.status != 6)) = true then mapPut (mapPut (mapPut (mapPut ([] : List (Int × Bool)) 1 kz) 2 (beg2 x ts)) 3 (beg3 ag x ts)) 2 false else mapPut (mapPut (mapPut ([] : List (Int × Bool)) 1 kz) 2 (beg2 x ts)) 3 (beg3 ag x ts)) := by
    unfold mapB
    rw [hkk]
    have hg : (mapGet (mapPut (mapPut (mapPut ([] : List (Int × Bool)) 1 kz) 2 (beg2 x ts)) 3 (beg3 ag x ts)) 1).getD false = kz := by
      simp [mapGet_put_]
    rw [hg]
    cases kz with
    | false => rfl
    | true =>
      simp only [Bool.and_self, if_true, Bool.true_and]
      show (Option.bind (portref2_targetOf p n 1) _) = _
      rw [t1, Option.bind_some]
      cases (b1 && (x.status != 6)) <;> rfl
  generalize hmp : (if ((kz && b1) && (x.status != 6)) = true then mapPut (mapPut (mapPut (mapPut ([] : List (Int × Bool)) 1 kz) 2 (beg2 x ts)) 3 (beg3 ag x ts)) 2 false else mapPut (mapPut (mapPut ([] : List (Int × Bool)) 1 kz) 2 (beg2 x ts)) 3 (beg3 ag x ts)) = mp at eB
  have m1 : (mapGet mp 1).getD false = kz := by
    rw [← hmp]
    split <;> simp [mapGet_put_]
  have m2 : (mapGet mp 2).getD false = if ((kz && b1) && (x.status != 6)) = true then false else beg2 x ts := by
    rw [← hmp]
    split <;> simp [mapGet_put_]
  have m3 : (mapGet mp 3).getD false = beg3 ag x ts := by
    rw [← hmp]
    split <;> simp [mapGet_put_]
  have eW := while_val (x := x) (mp := mp) (ts := ts) t1 t2 t3 (by omega)
  rw [m1, m2, m3] at eW
  refine ⟨_, addT (((beg3 ag x ts) && b3) && (x.status != 6)) (addT (((if ((kz && b1) && (x.status != 6)) = true then false else beg2 x ts) && b2) && (x.status != 6)) (addT ((kz && b1) && (x.status != 6)) ts (newT 1 n x.at_ g1)) (newT 2 n x.at_ g2)) (newT 3 n x.at_ g3), hC, fun β K => ?_, ?_, ?_⟩
  · rw [eA, Option.bind_some, eB, Option.bind_some, eW]
    rfl
  · unfold beg3 beg2
    rw [runs_eq hp, runs_eq hp]
    cases hs : (x.status != 6) with
    | false =>
      simp only [Bool.and_false, Bool.false_eq_true, if_false]
      unfold addT
      simp only [Bool.false_eq_true, if_false]
      exact hp
    | true =>
      simp only [Bool.and_true, if_true]
      have q2 : ((if (kz && b1) = true then false else ((x.kind == 2) && ((x.who == 0) && !(cs.any (runR [1, 2]))))) && b2) = (((x.kind == 2) && ((x.who == 0) && !((if (kz && b1) = true then cs ++ [newR 1 n x.at_ g1] else cs).any (runR [1, 2])))) && b2) := by
        cases (kz && b1) with
        | false => rfl
        | true =>
          simp only [if_true]
          rw [List.any_append]
          simp [runR_new, n12]
      rw [q2]
      refine Pair.add (Pair.add (Pair.add hp (kz && b1) fun h => c1 (by simp at h; exact h.2)) _ fun h => c2 ?_) _ fun h => c3 ?_
      · rw [Bool.and_eq_true] at h
        exact h.2
      · rw [Bool.and_eq_true] at h
        exact h.2
  · have la : ∀ (c : Bool) (d : List level_running) (r : level_running), (if c = true then d ++ [r] else d).length ≤ d.length + 1 := by
      intro c d r
      cases c <;> simp
    split
    · have i1 := la (kz && b1) cs (newR 1 n x.at_ g1)
      generalize (if (kz && b1) = true then cs ++ [newR 1 n x.at_ g1] else cs) = d1 at i1
      have i2 := la (((x.kind == 2) && ((x.who == 0) && !(d1.any (runR [1, 2])))) && b2) d1 (newR 2 n x.at_ g2)
      have i3 := la ((ag && ((x.status != 5) && !(cs.any (runR [3])))) && b3) (if (((x.kind == 2) && ((x.who == 0) && !(d1.any (runR [1, 2])))) && b2) = true then d1 ++ [newR 2 n x.at_ g2] else d1) (newR 3 n x.at_ g3)
      exact Nat.le_trans i3 (by omega)
    · omega
end Go.Proofs.YtfbiebageicnaaaGreatDoor.M
