import Derived.Test.YtfbiebageicnaaaGreatDoorLevelClocksLclPoint
namespace Go.Proofs.YtfbiebageicnaaaGreatDoor.M
open Go Go.Pu
set_option linter.unusedSimpArgs false
set_option linter.unusedVariables false
def finT (t : portref2_ticking) : level_Clock := if ((decide (t.c.stop < 0)) && (decide ((0 : Int) ≤ t.now))) = true then ⟨t.c.kind, t.c.level, t.c.minutes, t.c.start, t.c.stop, t.c.end_, t.c.pieces ++ [⟨t.at_, -1, t.now⟩]⟩ else t.c
theorem fin_eq {T : Int} {m : Nat} {r : level_running} {t : portref2_ticking} (h : Sm T m r t) : finT t = r.clock := by
 have h1 := h.kind; have h2 := h.lvl; have h3 := h.min; have h4 := h.start; have h5 := h.stop; have h6 := h.how
 unfold finT
 rw [h.alive]
 cases hg : r.goes with
 | true =>
  obtain ⟨g1, g2, g3, g4⟩ := h.go hg
  have he : r.clock.end_ = 0 := by
   by_cases e : r.clock.end_ = 0
   ·exact e
   ·rw [h.dead e] at hg
    cases hg
  rw [if_pos (by simp [he, g2]), h1, h2, h3, h4, h5, h6, ← g4]
 | false =>
  obtain ⟨g1, g2⟩ := h.no hg
  rw [if_neg (by rw [g1]; simp)]
  obtain ⟨⟨a1, a2, a3, a4, a5, a6, a7⟩, a8, a9⟩ := r
  obtain ⟨⟨b1, b2, b3, b4, b5, b6, b7⟩, b8, b9, b10⟩ := t
  simp only at h1 h2 h3 h4 h5 h6 g2
  subst h1 h2 h3 h4 h5 h6 g2
  rfl
theorem out_code (cs : List level_running) (hl : cs.length ≤ 100000) : rangeB (R := List level_Clock × Int) (fun k170 s178 => Option.bind (idx cs ((k170 : Nat) : Int)) fun x193 => Option.bind (appendL 1954687338268 s178 ([x193.clock] : List level_Clock)) fun x215 => some (.nx x215)) cs.length 0 ([] : (List level_Clock)) = some (.fin (cs.map (fun r => r.clock))) := by
 obtain ⟨t, h1, h2⟩ := rangeB_inv (R := List level_Clock × Int) (b := fun k170 s178 => Option.bind (idx cs ((k170 : Nat) : Int)) fun x193 => Option.bind (appendL 1954687338268 s178 ([x193.clock] : List level_Clock)) fun x215 => some (.nx x215)) cs.length (fun k s => s = (cs.take k).map (fun r => r.clock)) (s := []) (by simp) fun k s hk hs => by
  subst hs
  rw [idx_lt _ _ hk, Option.bind_some, appendOne _ _ (by simp; omega), Option.bind_some]
  refine ⟨_, rfl, ?_⟩
  rw [List.take_add_one, List.getElem?_eq_getElem hk, List.map_append]
  rfl
 rw [h1, h2, List.take_length]
theorem out_ref {T : Int} {m : Nat} {cs : List level_running} {ts : Tks} (hp : Pair (Sm T m) cs ts) (hl : cs.length ≤ 100000) (hm : m ≤ 100000) (n : Int) : rangeB (lastb (n, ts)) ts.length 0 ([] : (List level_Clock)) = some (.fin (cs.map (fun r => r.clock))) := by
 obtain ⟨t, h1, h2⟩ := rangeB_inv (b := lastb (n, ts)) ts.length (fun k s => s = (cs.take k).map (fun r => r.clock)) (s := []) (by simp) fun k s hk hs => by
  subst hs
  have hx : cs[k]? = some (cs[k]'(by rw [hp.1]; exact hk)) := List.getElem?_eq_getElem _
  have hy : ts[k]? = some ts[k] := List.getElem?_eq_getElem hk
  have h := hp.2 k _ _ hx hy
  generalize cs[k]'(by rw [hp.1]; exact hk) = r at hx h
  generalize ts[k] = t at hy h
  unfold lastb
  show ∃ t', (Option.bind (idx ts (k : Int)) _) = _ ∧ _
  rw [idx_nat, hy, Option.bind_some]
  have e1 : (if ((decide (t.c.stop < 0)) && (decide ((0 : Int) ≤ t.now))) = true then Option.bind (appendL 5864062014805 t.c.pieces ([(⟨t.at_, (-1), t.now⟩ : level_Piece)] : List level_Piece)) fun x914 => some (⟨(⟨t.c.kind, t.c.level, t.c.minutes, t.c.start, t.c.stop, t.c.end_, x914⟩ : level_Clock), t.now, t.at_, t.cal⟩ : portref2_ticking) else some t) = some ⟨finT t, t.now, t.at_, t.cal⟩ := by
   unfold finT
   have := h.few
   split
   ·rw [appendOne _ _ (by omega)]
    rfl
   ·rfl
  rw [e1, Option.bind_some, appendOne _ _ (by simp; omega), Option.bind_some]
  refine ⟨_, rfl, ?_⟩
  rw [List.take_add_one, hx, List.map_append, fin_eq h]
  rfl
 rw [h1, h2, ← hp.1, List.take_length]
theorem clocks_eq (p : level_Policy) (l : List level_Point) (hn : ∀ l ∈ p.levels, l.name.size ≤ 9223372036854775807 ∧ l.targets.length ≤ 9223372036854775807) (hp : p.pauses.length ≤ 9223372036854775807) : ∃ out, level_Clocks p l = some out ∧ portref2_ClocksOf p l = some out := by
 obtain ⟨r, q1, q2, q3⟩ := policy_eq p hn hp
 rw [clocksOf_eq]
 unfold level_Clocks
 rw [q1, q2, Option.bind_some, Option.bind_some]
 by_cases hr : r = 0
 rotate_left
 ·have hne : (r != 0) = true := by simpa using hr
  rw [if_pos hne, if_pos hne]
  exact ⟨_, rfl, rfl⟩
 subst hr
 have htest := q3 rfl
 have hok := (policyFault_ok q2 (fun l hl => (hn l hl).2) hp).2.2
 rw [if_neg (by decide), if_neg (by decide)]
 obtain ⟨h, k1, k2, k3⟩ := hist_eq l
 rw [k1, k2, Option.bind_some, Option.bind_some]
 by_cases hh : h = 0
 rotate_left
 ·have hne : (h != 0) = true := by simpa using hh
  rw [if_pos hne, if_pos hne]
  exact ⟨_, rfl, rfl⟩
 subst hh
 obtain ⟨hlen, hpt⟩ := k3 rfl
 rw [if_neg (by decide), if_neg (by decide)]
 rcases rangeB_sim (R := List level_Clock × Int) (b := fun k48 s60 => Option.bind (Option.bind (idx l ((k48 : Nat) : Int)) fun x93 => Option.bind (if ((k48 : Int) == 0) = true then Option.bind (level_keeper_point s60 x93 (none : Option level_Point)) fun x129 => some x129 else Option.bind (idx l (w64 ((k48 : Int) - 1))) fun x144 => Option.bind (level_keeper_point s60 x93 (some x144)) fun x151 => some x151) fun s112 => some s112) fun s80 => some (.nx s80))
  (b' := fun k37 s45 => Option.bind (Option.bind (idx l ((k37 : Nat) : Int)) fun x70 => refPoint p l k37 s45 x70) fun s61 => some (.nx (s61.1, s61.2))) l.length (fun _ => True)
  (fun k s t => ∃ (T : Int) (cs : List level_running) (ts : Tks) (n : Int), s = ⟨p, n, cs⟩ ∧ t = (n, ts) ∧ Pair (Sm T (3 * k)) cs ts ∧ cs.length ≤ 3 * k ∧ (-1 ≤ n ∧ n < p.levels.length) ∧ ∀ x, l[k]? = some x → T ≤ x.at_)
  (s := (⟨p, (-1), ([] : (List level_running))⟩ : level_keeper)) (s' := ((-1), ([] : Tks))) ⟨0, [], [], -1, rfl, rfl, Pair.nil _, Nat.le_refl _, ⟨by decide, by omega⟩, fun x hx => (hpt 0 x hx).1.1⟩ (by
   rintro k _ _ hk ⟨T, cs, ts, n, rfl, rfl, hpr, hcl, ⟨n1, n2⟩, hT⟩
   have hx : l[k]? = some l[k] := List.getElem?_eq_getElem hk
   generalize l[k] = x at hx
   obtain ⟨⟨x0, x1⟩, _, xo⟩ := hpt k x hx
   have hxi : idx l (k : Int) = some x := by rw [idx_nat]; exact hx
   refine .inr ?_
   have hnext : ∀ y, l[k + 1]? = some y → x.at_ ≤ y.at_ := fun y hy => (hpt (k + 1) y hy).2.2 k x rfl hx
   by_cases h0 : k = 0
   ·have hcs : cs = [] := List.eq_nil_of_length_eq_zero (by omega)
    obtain ⟨n', cs', ts', e1, e2, e3, e4, e5, e6⟩ := point_sim hpr hok htest (by omega) (by omega) l k x none (hT x hx) x0 (fun _ => ⟨rfl, hcs⟩) (fun h => absurd h0 h) n1 n2
    refine ⟨⟨p, n', cs'⟩, (n', ts'), ?_, ?_, x.at_, cs', ts', n', rfl, rfl, e3, by omega, ⟨e5, e6⟩, hnext⟩
    ·rw [hxi, Option.bind_some, if_pos (by simpa using h0), e1]
     rfl
    ·rw [hxi, Option.bind_some, e2]
     rfl
   ·obtain ⟨j, hj⟩ : ∃ j, k = j + 1 := ⟨k - 1, by omega⟩
    have hw : w64 ((k : Int) - 1) = (j : Int) := by rw [w64_id (by omega) (by omega)]; omega
    have hy : idx l (w64 ((k : Int) - 1)) = some (l[j]'(by omega)) := by rw [hw, idx_lt _ _ (by omega)]
    generalize l[j]'(by omega) = y at hy
    obtain ⟨n', cs', ts', e1, e2, e3, e4, e5, e6⟩ := point_sim hpr hok htest (by omega) (by omega) l k x (some y) (hT x hx) x0 (fun h => absurd h h0) (fun _ => ⟨y, hy, rfl⟩) n1 n2
    refine ⟨⟨p, n', cs'⟩, (n', ts'), ?_, ?_, x.at_, cs', ts', n', rfl, rfl, e3, by omega, ⟨e5, e6⟩, hnext⟩
    ·rw [hxi, Option.bind_some, if_neg (by simpa using h0), hy, Option.bind_some, e1]
     rfl
    ·rw [hxi, Option.bind_some, e2]
     rfl) with ⟨r, h1, h2, _⟩ | ⟨_, _, h1, h2, T, cs, ts, n, rfl, rfl, hpr, hcl, _⟩
 ·rw [h1, h2]
  exact ⟨r, rfl, rfl⟩
 ·rw [h1, h2]
  simp only [Option.bind_some, Lp.andThen_fin]
  rw [out_code cs (by omega), out_ref hpr (by omega) (by omega) n]
  exact ⟨_, rfl, rfl⟩
theorem pieces_self (l : List level_Piece) : slices_Equal_Llevel_Piece_level_Piece l l = some true := by
 unfold slices_Equal_Llevel_Piece_level_Piece
 rw [if_neg (by simp)]
 obtain ⟨t, h1, _⟩ := rangeB_inv (R := Bool) (b := fun k9 (_ : Unit) => Option.bind (idx l (k9 : Int)) fun x29 => Option.bind (idx l (k9 : Int)) fun x34 => if (!(x29.from_ == x34.from_ && (x29.to_ == x34.to_ && (x29.calendar == x34.calendar)))) = true then some (.rt false) else some (.nx ())) l.length (fun _ _ => True) (s := ()) trivial fun k s hk _ => by
  rw [idx_lt _ _ hk, Option.bind_some, Option.bind_some]
  exact ⟨(), by simp, trivial⟩
 rw [h1]
 rfl
theorem clock_self (c : level_Clock) : portref2_alikeClock c c = some true := by
 unfold portref2_alikeClock
 rw [pieces_self]
 simp
theorem alike_self (l : List level_Clock) : portref2_Alike l l = some true := by
 unfold portref2_Alike slices_EqualFunc_Llevel_Clock_Llevel_Clock_level_Clock_level_Clock
 rw [if_neg (by simp)]
 obtain ⟨t, h1, _⟩ := rangeB_inv (R := Bool) (b := fun k9 (_ : Unit) => Option.bind (idx l (k9 : Int)) fun x29 => Option.bind (idx l (k9 : Int)) fun x47 => Option.bind (portref2_alikeClock x29 x47) fun x71 => if (!x71) = true then some (.rt false) else some (.nx ())) l.length (fun _ _ => True) (s := ()) trivial fun k s hk _ => by
  rw [idx_lt _ _ hk, Option.bind_some, Option.bind_some, clock_self, Option.bind_some]
  exact ⟨(), rfl, trivial⟩
 rw [h1]
 rfl
theorem clocks_true (p : level_Policy) (l : List level_Point) (hn : ∀ l ∈ p.levels, l.name.size ≤ 9223372036854775807 ∧ l.targets.length ≤ 9223372036854775807) (hp : p.pauses.length ≤ 9223372036854775807) : portlaw2_LevelClocks p l = some true := by
 obtain ⟨out, c1, c2⟩ := clocks_eq p l hn hp
 obtain ⟨h, k1, k2, _⟩ := hist_eq l
 unfold portlaw2_LevelClocks
 rw [c1, c2, Option.bind_some, Option.bind_some, if_pos (by simp), alike_self, k1, k2]
 simp
end Go.Proofs.YtfbiebageicnaaaGreatDoor.M
