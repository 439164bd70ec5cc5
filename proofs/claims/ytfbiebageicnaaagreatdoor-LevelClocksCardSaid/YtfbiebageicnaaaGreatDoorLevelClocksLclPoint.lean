import Derived.Test.YtfbiebageicnaaaGreatDoorLevelClocksLclBegin
import Derived.Test.YtfbiebageicnaaaGreatDoorLevelClocksLvlIndex
namespace Go.Proofs.YtfbiebageicnaaaGreatDoor.M
open Go Go.Pu
set_option linter.unusedSimpArgs false
set_option linter.unusedVariables false
theorem choose_val (p : level_Policy) (n n' at_ : Int) (cs cs' : List level_running) (h : level_keeper_each (fun y => level_keeper_choose_1 y ⟨p, n', cs⟩ at_ n') cs = some cs') : level_keeper_choose ⟨p, n, cs⟩ at_ n' = some ⟨p, n', cs'⟩ := by
 unfold level_keeper_choose
 show Option.bind (level_keeper_each (fun y => level_keeper_choose_1 y ⟨p, n', cs⟩ at_ n') cs) _ = _
 rw [h]
 rfl
theorem point_sim {T : Int} {m : Nat} {cs : List level_running} {ts : Tks} (hp : Pair (Sm T m) cs ts) {p : level_Policy} (hok : ∀ l ∈ p.levels, LOk l) (htest : ∀ l ∈ p.levels, TestsOk l) {n : Int} (hl : cs.length ≤ 50000) (hm : m ≤ 50000) (l : List level_Point) (k : Nat) (x : level_Point) (before : Option level_Point)
  (hT : T ≤ x.at_) (hx0 : 0 ≤ x.at_) (h0 : k = 0 → before = none ∧ cs = []) (h1 : k ≠ 0 → ∃ y, idx l (w64 ((k : Int) - 1)) = some y ∧ before = some y) (hn1 : -1 ≤ n) (hn2 : n < p.levels.length) :
  ∃ n' cs' ts', level_keeper_point ⟨p, n, cs⟩ x before = some ⟨p, n', cs'⟩ ∧ refPoint p l k (n, ts) x = some (n', ts') ∧ Pair (Sm x.at_ (m + 3)) cs' ts' ∧ cs'.length ≤ cs.length + 3 ∧ -1 ≤ n' ∧ n' < p.levels.length := by
 rw [point_eq]
 unfold refPoint
 obtain ⟨c1, s1, e1, f1, p1, l1⟩ := each_loop hp (fun y => level_keeper_point_1 y x ((x.status == 5) || (x.status == 6)) ((x.kind == 2) && (decide ((0 : Int) < x.who))))
  (fun t => if (decide ((0 : Int) ≤ t.c.stop)) = true then some t else Option.bind (if ((x.kind == 7) && (x.status == 6)) = true then Option.bind (portref2_ticking_end t x.at_ 2) fun x169 => some x169 else Option.bind (if ((t.c.kind != 3) && ((x.kind == 2) && (decide ((0 : Int) < x.who)))) = true then some ((t.c.kind != 3) && ((x.kind == 2) && (decide ((0 : Int) < x.who)))) else some ((t.c.kind == 3) && (portref2_over x.status))) fun s180 => Option.bind (if s180 = true then Option.bind (portref2_ticking_end t x.at_ 1) fun x203 => some x203 else some t) fun s192 => some s192) fun s158 => some s158)
  (fun r t h => stage1 h x hT (by omega) hx0) (b := rb1 x) (fun k s t ht => by
   unfold rb1
   show (Option.bind (Option.bind (idx s (k : Int)) _) _) = _
   rw [idx_nat, ht, Option.bind_some, Int.toNat_natCast, Option.bind_assoc, Option.bind_assoc]
   rfl)
 show ∃ n' cs' ts', (Option.bind (level_keeper_each _ cs) _) = _ ∧ (Option.bind (rangeB (R := Empty) (rb1 x) ts.length 0 ts) _) = _ ∧ _
 rw [e1, f1, Option.bind_some, Option.bind_some]
 obtain ⟨n', g1, g2, g3, g4⟩ := level_eq2 p x.priority x.values htest
 show ∃ n' cs' ts', (Option.bind (level_Policy_levelOf p x.priority x.values) _) = _ ∧ (Option.bind (portref2_levelIn p x.priority x.values) _) = _ ∧ _
 rw [g1, g2, Option.bind_some, Option.bind_some]
 obtain ⟨c2, s2, e2, f2, p2, l2⟩ : ∃ (c2 : List level_running) (s2 : Tks), (if (n' != n) = true then Option.bind (level_keeper_choose ⟨p, n, c1⟩ x.at_ n') fun x70 => some x70 else some ⟨p, n, c1⟩) = some (⟨p, n', c2⟩ : level_keeper) ∧
   (if (n' != n) = true then Option.bind (rangeB (R := Empty) (rb2 p n' x) s1.length 0 s1) fun o242 => o242.andThen (fun y => y.elim) fun s243 => some (n', s243) else some (n, s1)) = some (n', s2) ∧ Pair (Sm x.at_ (m + 2)) c2 s2 ∧ c2.length = c1.length := by
  by_cases hc : n' = n
  ·have hcf : (n' != n) = false := by simpa using hc
   rw [hcf]
   subst hc
   exact ⟨c1, s1, rfl, rfl, p1.imp fun r t h => h.mono (Int.le_refl _) (by omega), rfl⟩
  ·have hct : (n' != n) = true := by simpa using hc
   rw [hct]
   obtain ⟨c2, s2, e2, f2, p2, l2⟩ := each_loop p1 (fun y => level_keeper_choose_1 y ⟨p, n', c1⟩ x.at_ n') (ref2 p n' x.at_) (Q := Sm x.at_ (m + 2)) (fun r t h => by
     obtain ⟨g, b, t1, t2⟩ := target_val hok g3 g4 r.clock.kind
     exact stage2 h (Int.le_refl _) (by omega) hx0 (target_same p n' c1 _ ▸ t1) t1 t2) (b := rb2 p n' x) (fun k s t ht => by
    unfold rb2 ref2
    show (Option.bind (Option.bind (idx s (k : Int)) _) _) = _
    rw [idx_nat, ht, Option.bind_some, Int.toNat_natCast]
    by_cases hs : (decide ((0 : Int) ≤ t.c.stop)) = true
    ·rw [if_pos hs, if_pos hs, Option.bind_some, Option.bind_some, set_same ht]
    ·rw [if_neg hs, if_neg hs]
     cases portref2_targetOf p n' t.c.kind with
     | none => rfl
     | some y =>
      rw [Option.bind_some, Option.bind_some]
      by_cases hb : (!y.2) = true
      ·rw [if_pos hb, if_pos hb, Option.bind_assoc]
       rfl
      ·rw [if_neg hb, if_neg hb]
       by_cases hw : (decide ((0 : Int) ≤ t.now)) = true
       ·rw [if_pos hw, if_pos hw, Option.bind_assoc, Option.bind_assoc]
        rfl
       ·rw [if_neg hw, if_neg hw]
        rfl)
   refine ⟨c2, s2, ?_, ?_, p2, l2⟩
   ·rw [if_pos (show true = true from rfl), choose_val p n n' x.at_ c1 c2 e2]
    rfl
   ·rw [if_pos (show true = true from rfl), f2]
    rfl
 show ∃ n' cs' ts', (Option.bind (if (_ != n) = true then Option.bind (level_keeper_choose ⟨p, n, c1⟩ x.at_ _) fun x70 => some x70 else some ⟨p, n, c1⟩) _) = _ ∧ _
 rw [e2, Option.bind_some]
 have f2' : (if (n' != (n, ts).1) = true then Option.bind (rangeB (R := Empty) (rb2 p n' x) s1.length 0 s1) fun o242 => o242.andThen (fun y => y.elim) fun s243 => some (n', s243) else some ((n, ts).1, s1)) = some (n', s2) := f2
 obtain ⟨c3, s3, e3, f3, p3, l3⟩ := begin_eq p2 hok g3 g4 (by omega) l k x before (fun h => by
  obtain ⟨h2, h3⟩ := h0 h
  refine ⟨h2, ?_⟩
  have : c2.length = 0 := by rw [l2, l1, h3]; rfl
  exact List.eq_nil_of_length_eq_zero this) h1
 rw [e3, Option.bind_some]
 obtain ⟨b, hb⟩ := contains_some p.pauses x.status
 show ∃ n' cs' ts', (Option.bind (slices_Contains_Lint_int p.pauses x.status) _) = _ ∧ _
 rw [hb, Option.bind_some]
 obtain ⟨c4, s4, e4, f4, p4, l4⟩ := each_loop p3 (fun y => level_keeper_point_2 y b x) (ref4 b x.at_) (Q := Sm x.at_ (m + 3)) (fun r t h => stage4 h x (Int.le_refl _) (by omega) b) (b := rb4 p x) (fun k s t ht => by
  unfold rb4 ref4
  show (Option.bind (Option.bind (idx s (k : Int)) _) _) = _
  rw [idx_nat, ht, Option.bind_some, Int.toNat_natCast]
  by_cases hs : (decide ((0 : Int) ≤ t.c.stop)) = true
  ·rw [if_pos hs, if_pos hs, Option.bind_some, Option.bind_some, set_same ht]
  ·rw [if_neg hs, if_neg hs, hb, Option.bind_some]
   cases b with
   | true => rw [if_pos (show true = true from rfl), if_pos (show true = true from rfl), Option.bind_assoc, Option.bind_assoc]; rfl
   | false => rw [if_neg (show ¬ false = true by decide), if_neg (show ¬ false = true by decide), Option.bind_assoc, Option.bind_assoc]; rfl)
 show ∃ n' cs' ts', (Option.bind (level_keeper_each (fun y => level_keeper_point_2 y b x) c3) _) = _ ∧ _
 rw [e4, Option.bind_some]
 refine ⟨n', c4, s4, rfl, ?_, p4, by omega, g3, g4⟩
 show (Option.bind (if (n' != (n, ts).1) = true then _ else _) _) = _
 rw [f2', Option.bind_some, f3]
 show (Option.bind (rangeB (R := Empty) (rb4 p x) s3.length 0 s3) _) = _
 rw [f4]
 rfl
end Go.Proofs.YtfbiebageicnaaaGreatDoor.M
