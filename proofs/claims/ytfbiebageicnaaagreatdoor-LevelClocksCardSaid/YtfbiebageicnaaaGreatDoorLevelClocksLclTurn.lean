import Derived.Test.YtfbiebageicnaaaGreatDoorLevelClocksLclStep
namespace Go.Proofs.YtfbiebageicnaaaGreatDoor.M
open Go Go.Pu
set_option linter.unusedSimpArgs false
set_option linter.unusedVariables false
theorem target_same (p : level_Policy) (n : Int) (cs : List level_running) (kind : Int) : level_keeper_target ⟨p, n, cs⟩ kind = portref2_targetOf p n kind := rfl
theorem target_val {p : level_Policy} (hp : ∀ l ∈ p.levels, LOk l) {n : Int} (h1 : -1 ≤ n) (h2 : n < p.levels.length) (kind : Int) : ∃ g b, portref2_targetOf p n kind = some (g, b) ∧ (b = true → 0 ≤ g.calendar) := by
 unfold portref2_targetOf
 by_cases h0 : n < 0
 ·rw [if_pos (decide_eq_true h0)]
  exact ⟨_, _, rfl, fun h => by cases h⟩
 rw [if_neg (by simpa using h0)]
 obtain ⟨k, rfl⟩ := Int.eq_ofNat_of_zero_le (show 0 ≤ n by omega)
 have hk : k < p.levels.length := by omega
 rw [idx_lt _ _ hk, Option.bind_some]
 have hl := hp _ (List.getElem_mem hk)
 generalize p.levels[k] = l at hl
 obtain ⟨r, e1, e2⟩ := rangeB_spec (body := fun k35 (s41 : level_Target) => Option.bind (idx l.targets (k35 : Int)) fun x54 => if (x54.kind == kind) = true then some (Ctl.rt (x54, true)) else some (Ctl.nx s41)) l.targets.length (fun _ _ => True)
  (fun r => match r with | .rt y => 0 ≤ y.1.calendar | .fin _ => True) (s := (⟨0, 0, 0⟩ : level_Target)) trivial (fun k s hk _ => by
   rw [idx_lt _ _ hk, Option.bind_some]
   by_cases hc : (l.targets[k].kind == kind) = true
   ·rw [if_pos hc]
    exact ⟨_, rfl, (hl.target _ (List.getElem_mem hk)).2.2.1⟩
   ·rw [if_neg hc]
    exact ⟨_, rfl, trivial⟩) (fun _ _ => trivial)
 rw [e1]
 cases r with
 | rt y => exact ⟨y.1, y.2, rfl, fun _ => e2⟩
 | fin s => exact ⟨_, _, rfl, fun h => by cases h⟩
def ref2 (p : level_Policy) (n at_ : Int) (t : portref2_ticking) : Option portref2_ticking :=
 if (decide ((0 : Int) ≤ t.c.stop)) = true then some t else Option.bind (portref2_targetOf p n t.c.kind) fun x355 => if (!x355.2) = true then portref2_ticking_end t at_ 2 else
  if (decide ((0 : Int) ≤ t.now)) = true then portref2_ticking_turn (⟨(⟨t.c.kind, n, x355.1.minutes, t.c.start, t.c.stop, t.c.end_, t.c.pieces⟩ : level_Clock), t.now, t.at_, x355.1.calendar⟩ : portref2_ticking) at_ x355.1.calendar else some (⟨(⟨t.c.kind, n, x355.1.minutes, t.c.start, t.c.stop, t.c.end_, t.c.pieces⟩ : level_Clock), t.now, t.at_, x355.1.calendar⟩ : portref2_ticking)
theorem stage2 {T : Int} {m : Nat} {r : level_running} {t : portref2_ticking} (h : Sm T m r t) {at_ : Int} (hT : T ≤ at_) (hm : m ≤ 100000) (h0 : 0 ≤ at_) {p : level_Policy} {n : Int} {k : level_keeper} {g : level_Target} {b : Bool}
  (hk : level_keeper_target k r.clock.kind = some (g, b)) (hp : portref2_targetOf p n r.clock.kind = some (g, b)) (hb : b = true → 0 ≤ g.calendar) :
  ∃ r' t', (if (r.clock.end_ == 0) = true then level_keeper_choose_1 r k at_ n else some r) = some r' ∧ ref2 p n at_ t = some t' ∧ Sm at_ (m + 1) r' t' := by
 unfold ref2
 rw [h.runs]
 cases he : (r.clock.end_ == 0) with
 | false =>
  simp only [Bool.false_eq_true, if_false, Bool.not_false, if_true]
  exact ⟨r, t, rfl, rfl, h.mono hT (by omega)⟩
 | true =>
  simp only [if_true, Bool.not_true, Bool.false_eq_true, if_false]
  unfold level_keeper_choose_1
  rw [h.kind, hk, hp, Option.bind_some, Option.bind_some]
  have hrun := h.run (by simpa using he)
  cases b with
  | false =>
   simp only [Bool.not_false, if_true]
   obtain ⟨r', t', e1, e2, e3⟩ := end_end h hT (by omega) h0 (how := 2) (by decide)
   rw [e1, e2]
   exact ⟨r', t', rfl, rfl, e3⟩
  | true =>
   have hg := hb rfl
   simp only [Bool.not_true, Bool.false_eq_true, if_false]
   have hf := h.few
   cases hgo : r.goes with
   | false =>
    obtain ⟨n1, n2⟩ := h.no hgo
    simp only [Bool.false_and, Bool.false_eq_true, if_false, Option.bind_some]
    rw [if_neg (by rw [n1]; simp)]
    refine ⟨_, _, rfl, rfl, ?_⟩
    exact { kind := rfl, lvl := rfl, min := rfl, start := h.start, stop := h.stop, how := h.how, live := h.live, few := (by show t.c.pieces.length ≤ m + 1; omega), go := fun e => (by rw [hgo] at e; cases e), no := fun _ => ⟨n1, n2⟩, run := fun _ => ⟨rfl, hg⟩, dead := fun _ => hgo }
   | true =>
    obtain ⟨g1, g2, g3, g4⟩ := h.go hgo
    rw [if_pos (decide_eq_true g2)]
    by_cases hc : g.calendar = r.target.calendar
    ·have hM : ((true && (!(g.kind == r.target.kind && (g.minutes == r.target.minutes && (g.calendar == r.target.calendar))))) && (g.calendar != r.target.calendar)) = false := by
      rw [hc]
      simp
     rw [hM]
     simp only [Bool.false_eq_true, if_false, Option.bind_some]
     rw [turn_same (by rw [hc, g1])]
     refine ⟨_, _, rfl, rfl, ?_⟩
     exact { kind := rfl, lvl := rfl, min := rfl, start := h.start, stop := h.stop, how := h.how, live := h.live, few := (by show t.c.pieces.length ≤ m + 1; omega), go := fun _ => ⟨by rw [g1, hc], g2, Int.le_trans g3 hT, g4⟩, no := fun e => (by rw [hgo] at e; cases e), run := fun _ => ⟨rfl, hg⟩, dead := fun e => absurd (by simpa using he) e }
    ·have hM : ((true && (!(g.kind == r.target.kind && (g.minutes == r.target.minutes && (g.calendar == r.target.calendar))))) && (g.calendar != r.target.calendar)) = true := by
      have : (g.calendar == r.target.calendar) = false := by simpa using hc
      rw [bne, this]
      simp
     rw [hM]
     simp only [if_true]
     have hpl : (if t.at_ < at_ then t.c.pieces ++ [⟨t.at_, at_, t.now⟩] else t.c.pieces : List level_Piece).length ≤ m + 1 := by
      split
      ·simp; omega
      ·omega
     rw [cut_val hgo g4 (by omega) (by omega), Option.bind_some, Option.bind_some, on_val (Nat.le_trans hpl (by omega)), turn_val (by exact g2) (by show g.calendar ≠ t.now; rw [g1]; exact hc) (by show t.c.pieces.length ≤ _; omega)]
     refine ⟨_, _, rfl, rfl, ?_⟩
     exact { kind := rfl, lvl := rfl, min := rfl, start := h.start, stop := h.stop, how := h.how, live := h.live, few := hpl, go := fun _ => ⟨rfl, hg, Int.le_refl _, rfl⟩, no := fun e => (by cases e), run := fun _ => ⟨rfl, hg⟩, dead := fun e => absurd (by simpa using he) e }
def ref4 (b : Bool) (at_ : Int) (t : portref2_ticking) : Option portref2_ticking :=
 if (decide ((0 : Int) ≤ t.c.stop)) = true then some t else if b = true then portref2_ticking_turn t at_ (-1) else portref2_ticking_turn t at_ t.cal
theorem stage4 {T : Int} {m : Nat} {r : level_running} {t : portref2_ticking} (h : Sm T m r t) (x : level_Point) (hT : T ≤ x.at_) (hm : m ≤ 100000) (b : Bool) :
  ∃ r' t', (if (r.clock.end_ == 0) = true then level_keeper_point_2 r b x else some r) = some r' ∧ ref4 b x.at_ t = some t' ∧ Sm x.at_ (m + 1) r' t' := by
 unfold ref4
 rw [h.runs]
 cases he : (r.clock.end_ == 0) with
 | false =>
  simp only [Bool.false_eq_true, if_false, Bool.not_false, if_true]
  exact ⟨r, t, rfl, rfl, h.mono hT (by omega)⟩
 | true =>
  simp only [if_true, Bool.not_true, Bool.false_eq_true, if_false]
  unfold level_keeper_point_2
  have hrun := h.run (by simpa using he)
  have hf := h.few
  cases b with
  | true =>
   simp only [if_true]
   obtain ⟨ps, e1, hl, ⟨a, e2⟩, _⟩ := cut_turn h hT (by omega)
   rw [e1, e2]
   refine ⟨_, _, rfl, rfl, ?_⟩
   exact { kind := h.kind, lvl := h.lvl, min := h.min, start := h.start, stop := h.stop, how := h.how, live := h.live, few := hl, go := fun e => (by cases e), no := fun _ => ⟨rfl, rfl⟩, run := fun _ => hrun, dead := fun _ => rfl }
  | false =>
   simp only [Bool.false_eq_true, if_false]
   cases hgo : r.goes with
   | true =>
    obtain ⟨g1, g2, g3, g4⟩ := h.go hgo
    simp only [Bool.not_true, Bool.false_eq_true, if_false, Option.bind_some]
    rw [turn_same (by rw [hrun.1, g1])]
    exact ⟨r, t, rfl, rfl, h.mono hT (by omega)⟩
   | false =>
    obtain ⟨n1, n2⟩ := h.no hgo
    simp only [Bool.not_false, if_true]
    rw [on_val (by rw [n2]; omega), turn_off n1 (by omega)]
    refine ⟨_, _, rfl, rfl, ?_⟩
    exact { kind := h.kind, lvl := h.lvl, min := h.min, start := h.start, stop := h.stop, how := h.how, live := h.live, few := (by show t.c.pieces.length ≤ m + 1; omega), go := fun _ => ⟨hrun.1, hrun.2, Int.le_refl _, by show _ = t.c.pieces ++ [(⟨x.at_, -1, t.cal⟩ : level_Piece)]; rw [n2, hrun.1]⟩, no := fun e => (by cases e), run := fun _ => hrun, dead := fun e => absurd (by simpa using he) e }
theorem Sm.new {kind n at_ : Int} {g : level_Target} (hg : 0 ≤ g.calendar) (T : Int) (m : Nat) : Sm T m ⟨⟨kind, n, g.minutes, at_, -1, 0, []⟩, g, false⟩ ⟨⟨kind, n, g.minutes, at_, -1, 0, []⟩, -1, 0, g.calendar⟩ :=
 { kind := rfl, lvl := rfl, min := rfl, start := rfl, stop := rfl, how := rfl, live := ⟨fun _ => (by show (-1 : Int) < 0; decide), fun _ => rfl⟩, few := Nat.zero_le _, go := fun e => (by cases e), no := fun _ => ⟨rfl, rfl⟩, run := fun _ => ⟨rfl, hg⟩, dead := fun e => absurd rfl e }
end Go.Proofs.YtfbiebageicnaaaGreatDoor.M
