import Derived.Test.YtfbiebageicnaaaGreatDoorLevelClocksLclHist
namespace Go.Proofs.YtfbiebageicnaaaGreatDoor.M
open Go Go.Pu
set_option linter.unusedSimpArgs false
set_option linter.unusedVariables false
structure Sm (T : Int) (m : Nat) (r : level_running) (t : portref2_ticking) : Prop where
 kind : t.c.kind = r.clock.kind
 lvl : t.c.level = r.clock.level
 min : t.c.minutes = r.clock.minutes
 start : t.c.start = r.clock.start
 stop : t.c.stop = r.clock.stop
 how : t.c.end_ = r.clock.end_
 live : r.clock.end_ = 0 ↔ r.clock.stop < 0
 few : t.c.pieces.length ≤ m
 go : r.goes = true → t.now = r.target.calendar ∧ 0 ≤ t.now ∧ t.at_ ≤ T ∧ r.clock.pieces = t.c.pieces ++ [⟨t.at_, -1, t.now⟩]
 no : r.goes = false → t.now = -1 ∧ r.clock.pieces = t.c.pieces
 run : r.clock.end_ = 0 → t.cal = r.target.calendar ∧ 0 ≤ t.cal
 dead : r.clock.end_ ≠ 0 → r.goes = false
theorem appendOne {α : Type} {lim : Nat} (l : List α) (x : α) (h : l.length + 1 ≤ lim) : appendL lim l [x] = some (l ++ [x]) := by
 unfold appendL
 rw [if_pos (by simpa using h)]
theorem sliceP_take (l : List level_Piece) (k : Nat) (h : k ≤ l.length) : sliceL l none (some (k : Int)) = some (l.take k) := by
 unfold sliceL bounds
 simp
 omega
theorem cut_val {r : level_running} {ps : List level_Piece} {a c at_ : Int} (hg : r.goes = true) (hp : r.clock.pieces = ps ++ [⟨a, -1, c⟩]) (ha : a ≤ at_) (hf : ps.length ≤ 1000000) :
  level_running_cut r at_ = some ⟨⟨r.clock.kind, r.clock.level, r.clock.minutes, r.clock.start, r.clock.stop, r.clock.end_, if a < at_ then ps ++ [⟨a, at_, c⟩] else ps⟩, r.target, false⟩ := by
 unfold level_running_cut
 rw [if_neg (by rw [hg]; decide), hp]
 have hw : w64 (((ps ++ [(⟨a, -1, c⟩ : level_Piece)]).length : Int) - 1) = (ps.length : Int) := by
  rw [List.length_append, w64_id (by simp; try omega) (by simp; try omega)]
  simp
 rw [hw, idx_nat, List.getElem?_append_right (Nat.le_refl _), Nat.sub_self]
 simp only [List.getElem?_cons_zero, Option.bind_some]
 have hs : setI (ps ++ [(⟨a, -1, c⟩ : level_Piece)]) (ps.length : Int) ⟨a, at_, c⟩ = some (ps ++ [⟨a, at_, c⟩]) := by
  unfold setI
  rw [if_pos (by simp), Int.toNat_natCast, List.set_append_right _ _ (Nat.le_refl _), Nat.sub_self]
  rfl
 rw [hs, Option.bind_some]
 by_cases h : a < at_
 ·rw [if_neg (by simp; omega), if_pos h]
  rfl
 ·have ea : a = at_ := by omega
  rw [if_pos (by simpa using ea), if_neg h]
  have hw2 : w64 (((ps ++ [(⟨a, at_, c⟩ : level_Piece)]).length : Int) - 1) = (ps.length : Int) := by
   rw [List.length_append, w64_id (by simp; try omega) (by simp; try omega)]
   simp
  rw [hw2, sliceP_take _ _ (by simp), Option.bind_some]
  simp
theorem cut_no {r : level_running} {at_ : Int} (hg : r.goes = false) : level_running_cut r at_ = some r := by
 unfold level_running_cut
 rw [if_pos (by rw [hg]; rfl)]
theorem on_val {r : level_running} {at_ : Int} (hf : r.clock.pieces.length ≤ 1000000) :
  level_running_on r at_ = some ⟨⟨r.clock.kind, r.clock.level, r.clock.minutes, r.clock.start, r.clock.stop, r.clock.end_, r.clock.pieces ++ [⟨at_, -1, r.target.calendar⟩]⟩, r.target, true⟩ := by
 unfold level_running_on
 rw [appendOne _ _ (by omega)]
 rfl
theorem turn_val {t : portref2_ticking} {m cal : Int} (h0 : 0 ≤ t.now) (hc : cal ≠ t.now) (hf : t.c.pieces.length ≤ 1000000) :
  portref2_ticking_turn t m cal = some ⟨⟨t.c.kind, t.c.level, t.c.minutes, t.c.start, t.c.stop, t.c.end_, if t.at_ < m then t.c.pieces ++ [⟨t.at_, m, t.now⟩] else t.c.pieces⟩, cal, m, t.cal⟩ := by
 unfold portref2_ticking_turn
 rw [if_neg (by simpa using hc)]
 by_cases h : t.at_ < m
 ·rw [if_pos (by simp [h0, h]), appendOne _ _ (by omega), if_pos h]
  rfl
 ·rw [if_neg (by simp; omega), if_neg h]
  rfl
theorem turn_off {t : portref2_ticking} {m cal : Int} (h0 : t.now = -1) (hc : cal ≠ -1) : portref2_ticking_turn t m cal = some ⟨t.c, cal, m, t.cal⟩ := by
 unfold portref2_ticking_turn
 rw [if_neg (by rw [h0]; simpa using hc), if_neg (by rw [h0]; simp)]
 rfl
theorem turn_same {t : portref2_ticking} {m cal : Int} (hc : cal = t.now) : portref2_ticking_turn t m cal = some t := by
 unfold portref2_ticking_turn
 rw [if_pos (by simpa using hc)]
theorem cut_turn {T : Int} {m : Nat} {r : level_running} {t : portref2_ticking} (h : Sm T m r t) {at_ : Int} (hT : T ≤ at_) (hm : m ≤ 1000000) :
  ∃ ps, level_running_cut r at_ = some ⟨⟨r.clock.kind, r.clock.level, r.clock.minutes, r.clock.start, r.clock.stop, r.clock.end_, ps⟩, r.target, false⟩ ∧
   ps.length ≤ m + 1 ∧ (∃ a, portref2_ticking_turn t at_ (-1) = some ⟨⟨t.c.kind, t.c.level, t.c.minutes, t.c.start, t.c.stop, t.c.end_, ps⟩, -1, a, t.cal⟩) ∧
   ∀ cal, cal ≠ t.now → 0 ≤ t.now → portref2_ticking_turn t at_ cal = some ⟨⟨t.c.kind, t.c.level, t.c.minutes, t.c.start, t.c.stop, t.c.end_, ps⟩, cal, at_, t.cal⟩ := by
 have hf := h.few
 cases hg : r.goes with
 | true =>
  obtain ⟨g1, g2, g3, g4⟩ := h.go hg
  refine ⟨if t.at_ < at_ then t.c.pieces ++ [⟨t.at_, at_, t.now⟩] else t.c.pieces, cut_val hg g4 (by omega) (by omega), ?_, ⟨at_, turn_val g2 (by omega) (by omega)⟩, fun cal hc _ => turn_val g2 hc (by omega)⟩
  split
  ·simp; omega
  ·omega
 | false =>
  obtain ⟨g1, g2⟩ := h.no hg
  refine ⟨r.clock.pieces, ?_, by rw [g2]; omega, ⟨t.at_, ?_⟩, fun cal hc h0 => by omega⟩
  ·rw [cut_no hg]
   cases r
   cases hg
   rfl
  ·rw [turn_same g1.symm, g2, ← g1]
theorem end_end {T : Int} {m : Nat} {r : level_running} {t : portref2_ticking} (h : Sm T m r t) {at_ : Int} (hT : T ≤ at_) (hm : m ≤ 1000000) (h0 : 0 ≤ at_) {how : Int} (hh : how ≠ 0) :
  ∃ r' t', level_running_end r at_ how = some r' ∧ portref2_ticking_end t at_ how = some t' ∧ Sm at_ (m + 1) r' t' := by
 obtain ⟨ps, e1, hl, ⟨a, e2⟩, _⟩ := cut_turn h hT hm
 refine ⟨⟨⟨r.clock.kind, r.clock.level, r.clock.minutes, r.clock.start, at_, how, ps⟩, r.target, false⟩, ⟨⟨t.c.kind, t.c.level, t.c.minutes, t.c.start, at_, how, ps⟩, -1, a, t.cal⟩, ?_, ?_, ?_⟩
 ·unfold level_running_end
  rw [e1]
  rfl
 ·unfold portref2_ticking_end
  rw [e2]
  rfl
 ·exact { kind := h.kind, lvl := h.lvl, min := h.min, start := h.start, stop := rfl, how := rfl, live := ⟨fun e => absurd e hh, fun e => absurd e (by simp; omega)⟩, few := hl, go := fun e => absurd e (by simp), no := fun _ => ⟨rfl, rfl⟩, run := fun e => absurd e hh, dead := fun _ => rfl }
theorem Sm.mono {T T' : Int} {m m' : Nat} {r : level_running} {t : portref2_ticking} (h : Sm T m r t) (hT : T ≤ T') (hm : m ≤ m') : Sm T' m' r t :=
 { h with few := Nat.le_trans h.few hm, go := fun e => by obtain ⟨h1, h2, h3, h4⟩ := h.go e; exact ⟨h1, h2, by omega, h4⟩ }
theorem Sm.runs {T : Int} {m : Nat} {r : level_running} {t : portref2_ticking} (h : Sm T m r t) : (decide ((0 : Int) ≤ t.c.stop)) = !(r.clock.end_ == 0) := by
 have := h.live
 rw [h.stop]
 by_cases e : r.clock.end_ = 0
 ·have := this.1 e
  rw [e, decide_eq_false (by omega)]
  rfl
 ·have hs : ¬ r.clock.stop < 0 := fun h2 => e (this.2 h2)
  rw [decide_eq_true (by omega)]
  simp [e]
theorem Sm.alive {T : Int} {m : Nat} {r : level_running} {t : portref2_ticking} (h : Sm T m r t) : (decide (t.c.stop < 0)) = (r.clock.end_ == 0) := by
 have := h.live
 rw [h.stop]
 by_cases e : r.clock.end_ = 0
 ·rw [e, decide_eq_true (this.1 e)]
  rfl
 ·rw [decide_eq_false (fun h2 => e (this.2 h2))]
  simp [e]
theorem stage1 {T : Int} {m : Nat} {r : level_running} {t : portref2_ticking} (h : Sm T m r t) (x : level_Point) (hT : T ≤ x.at_) (hm : m ≤ 1000000) (h0 : 0 ≤ x.at_) :
  ∃ r' t', (if (r.clock.end_ == 0) = true then level_keeper_point_1 r x ((x.status == 5) || (x.status == 6)) ((x.kind == 2) && (decide ((0 : Int) < x.who))) else some r) = some r' ∧
   (if (decide ((0 : Int) ≤ t.c.stop)) = true then some t else Option.bind (if ((x.kind == 7) && (x.status == 6)) = true then Option.bind (portref2_ticking_end t x.at_ 2) fun x169 => some x169 else Option.bind (if ((t.c.kind != 3) && ((x.kind == 2) && (decide ((0 : Int) < x.who)))) = true then some ((t.c.kind != 3) && ((x.kind == 2) && (decide ((0 : Int) < x.who)))) else some ((t.c.kind == 3) && (portref2_over x.status))) fun s180 => Option.bind (if s180 = true then Option.bind (portref2_ticking_end t x.at_ 1) fun x203 => some x203 else some t) fun s192 => some s192) fun s158 => some s158) = some t' ∧ Sm x.at_ (m + 1) r' t' := by
 rw [h.runs]
 cases he : (r.clock.end_ == 0) with
 | false =>
  simp only [Bool.false_eq_true, if_false, Bool.not_false, if_true]
  exact ⟨r, t, rfl, rfl, h.mono hT (by omega)⟩
 | true =>
  simp only [if_true, Bool.not_true, Bool.false_eq_true, if_false]
  unfold level_keeper_point_1
  rw [h.kind]
  cases hc : ((x.kind == 7) && (x.status == 6)) with
  | true =>
   simp only [if_true]
   obtain ⟨r', t', e1, e2, e3⟩ := end_end h hT hm h0 (how := 2) (by decide)
   rw [e1, e2]
   exact ⟨r', t', rfl, rfl, e3⟩
  | false =>
   simp only [Bool.false_eq_true, if_false]
   have e4 : (if ((r.clock.kind == 3) && ((x.status == 5) || (x.status == 6))) = true then some ((r.clock.kind == 3) && ((x.status == 5) || (x.status == 6))) else some ((r.clock.kind != 3) && ((x.kind == 2) && (decide ((0 : Int) < x.who))))) = (if ((r.clock.kind != 3) && ((x.kind == 2) && (decide ((0 : Int) < x.who)))) = true then some ((r.clock.kind != 3) && ((x.kind == 2) && (decide ((0 : Int) < x.who)))) else some ((r.clock.kind == 3) && (portref2_over x.status))) := by
    unfold portref2_over
    generalize ((x.status == 5) || (x.status == 6)) = ov
    generalize ((x.kind == 2) && (decide ((0 : Int) < x.who))) = an
    rw [bne]
    generalize (r.clock.kind == 3) = k3
    cases k3 <;> cases ov <;> cases an <;> rfl
   rw [e4]
   have e5 : ∃ b, (if ((r.clock.kind != 3) && ((x.kind == 2) && (decide ((0 : Int) < x.who)))) = true then some ((r.clock.kind != 3) && ((x.kind == 2) && (decide ((0 : Int) < x.who)))) else some ((r.clock.kind == 3) && (portref2_over x.status))) = some b := by split <;> exact ⟨_, rfl⟩
   obtain ⟨b, e5⟩ := e5
   rw [e5]
   simp only [Option.bind_some]
   cases b with
   | false =>
    simp only [Bool.false_eq_true, if_false, Option.bind_some]
    exact ⟨r, t, rfl, rfl, h.mono hT (by omega)⟩
   | true =>
    obtain ⟨r', t', e1, e2, e3⟩ := end_end h hT hm h0 (how := 1) (by decide)
    simp only [if_true]
    rw [e1, e2]
    exact ⟨r', t', rfl, rfl, e3⟩
end Go.Proofs.YtfbiebageicnaaaGreatDoor.M
