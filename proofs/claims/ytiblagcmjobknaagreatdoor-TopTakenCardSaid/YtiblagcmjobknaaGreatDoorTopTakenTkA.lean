import Derived.Test.YtiblagcmjobknaaGreatDoorTopTakenM
import Derived.Test.YtiblagcmjobknaaGreatDoorPl
import Derived.Lib.Bytealg
import Derived.Test.YtiblagcmjobknaaGreatDoorPr
import Derived.Test.YtiblagcmjobknaaGreatDoorPj
namespace Go.Proofs.YtiblagcmjobknaaGreatDoor.M
open Go Go.Pu
set_option linter.unusedSimpArgs false
set_option linter.unusedVariables false
theorem zbQ {S : Type} {b : Nat → S → Option (Ctl S Int)} {n : Nat} {s : S} {f : S → Option Int} {Q : Prop} (I : Nat → S → Prop) (h0 : I 0 s)
  (round : ∀ k s, k < n → I k s → (∃ r, b k s = some (.rt r) ∧ r ≠ 0) ∨ ∃ t, b k s = some (.nx t) ∧ I (k + 1) t) (hend : ∀ t, I n t → ∃ r, f t = some r ∧ (r = 0 → Q)) :
  ∃ r, Option.bind (zE b n 0 s) (fun o => o.andThen (fun y => some y) f) = some r ∧ (r = 0 → Q) := by
 obtain ⟨o, e, hq⟩ := JO (body := b) n I (fun o => (∃ r, o = .rt r ∧ r ≠ 0) ∨ ∃ t, o = .fin t ∧ I n t) h0 (fun k s hk hI => by
  rcases round k s hk hI with ⟨r, e, h⟩ | ⟨t, e, h⟩
  ·exact ⟨_, e, .inl ⟨r, rfl, h⟩⟩
  ·exact ⟨_, e, h⟩) (fun s h => .inr ⟨s, rfl, h⟩)
 rw [e]
 rcases hq with ⟨r, rfl, h⟩ | ⟨t, rfl, h⟩
 ·exact ⟨r, rfl, fun h0 => absurd h0 h⟩
 ·exact hend t h
theorem zfD {α : Type} {l : List α} {k : Nat} (hk : k < l.length) (hl : l.length ≤ 1000) (f : α → Bool) : (if (decide ((0 : Int) < (k : Int))) = true then (Option.bind (idx l (w64 ((k : Int) - 1))) fun y => some (f y)) else (some false)) = some (match l[k - 1]? with
  | some y => decide (0 < k) && f y
  | none => false) := by
 rw [List.getElem?_eq_getElem (by omega)]
 dsimp only
 by_cases h0 : 0 < k
 ·have hw : w64 ((k : Int) - 1) = ((k - 1 : Nat) : Int) := by rw [Zi (by omega) (by omega)]; omega
  rw [if_pos (by simpa using h0), hw, zhj _ _ (by omega), Option.bind_some, decide_eq_true h0, Bool.true_and]
 ·rw [if_neg (by simpa using h0), decide_eq_false h0, Bool.false_and]
def ChOk (c : zU) : Prop := 1 ≤ c.at_ ∧ c.at_ ≤ 3000000 ∧ -1440 ≤ c.offset ∧ c.offset ≤ 1440
def zbn (z : Zc) : Prop := (-1440 ≤ z.offset ∧ z.offset ≤ 1440) ∧ (∀ (j : Nat) (c : zU), z.changes[j]? = some c → ChOk c) ∧ ∀ (j : Nat) (c d : zU), z.changes[j]? = some c → z.changes[j + 1]? = some d → c.at_ < d.at_
theorem zbN (n a b : Int) : zW n a b = true ↔ a ≤ n ∧ n ≤ b := by simp [zW]
theorem zln (z : Zc) : ∃ r, jp z = some r ∧ (r = 0 → zbn z) := by
 unfold jp
 by_cases h1 : zW z.offset (-1440) 1440 = true
 rotate_left
 ·rw [if_pos (by simpa using h1)]
  exact ⟨2, rfl, fun h => absurd h (by decide)⟩
 rw [if_neg (by simpa using h1)]
 by_cases h2 : (60 : Int) < (z.changes.length : Int)
 ·rw [if_pos (by simpa using h2)]
  exact ⟨4, rfl, fun h => absurd h (by decide)⟩
 rw [if_neg (by simpa using h2)]
 refine zbQ (fun k s => (∀ (j : Nat) (c : zU), j < k → z.changes[j]? = some c → ChOk c) ∧ (∀ (j : Nat) (c d : zU), j + 1 < k → z.changes[j]? = some c → z.changes[j + 1]? = some d → c.at_ < d.at_) ∧ ∀ c, 0 < k → z.changes[k - 1]? = some c → s.1 = c.at_)
  ⟨fun j c h => absurd h (Nat.not_lt_zero _), fun j c d h => absurd h (Nat.not_lt_zero _), fun c h => absurd h (Nat.lt_irrefl _)⟩ ?_ ?_
 ·rintro k ⟨a, o⟩ hk ⟨hall, hord, hprev⟩
  dsimp only at hprev ⊢
  have hc : z.changes[k]? = some z.changes[k] := List.getElem?_eq_getElem hk
  generalize z.changes[k] = c at hc
  rw [zP, hc, Option.bind_some]
  by_cases h3 : zW c.at_ 1 3000000 = true ∧ zW c.offset (-1440) 1440 = true
  rotate_left
  ·rw [if_pos (by simp only [Bool.or_eq_true, Bool.not_eq_true']; rcases Classical.not_and_iff_not_or_not.1 h3 with h | h <;> simp at h <;> simp [h])]
   exact .inl ⟨2, rfl, by decide⟩
  rw [if_neg (by simp [h3.1, h3.2])]
  by_cases h4 : c.at_ ≤ a
  ·rw [if_pos (by simpa using h4)]
   exact .inl ⟨5, rfl, by decide⟩
  rw [if_neg (by simpa using h4)]
  by_cases h5 : (c.offset == o) = true
  ·rw [if_pos h5]
   exact .inl ⟨1, rfl, by decide⟩
  rw [if_neg h5]
  rw [zbN, zbN] at h3
  refine .inr ⟨_, rfl, fun j d hj hd => ?_, fun j d1 d2 hj e1 e2 => ?_, fun d _ hd => by rw [Nat.add_sub_cancel, hc] at hd; cases hd; rfl⟩
  ·rcases Nat.lt_or_eq_of_le (Nat.le_of_lt_succ hj) with h | rfl
   ·exact hall j d h hd
   ·rw [hc] at hd; cases hd; exact ⟨h3.1.1, h3.1.2, h3.2⟩
  ·rcases Nat.lt_or_eq_of_le (Nat.le_of_lt_succ hj) with h | rfl
   ·exact hord j d1 d2 h e1 e2
   ·rw [hc] at e2; cases e2
    have := hprev d1 (by omega) (by simpa using e1)
    omega
 ·rintro ⟨a, o⟩ ⟨hall, hord, _⟩
  exact ⟨0, rfl, fun _ => ⟨(zbN _ _ _).1 h1, fun j c hc => hall j c (List.getElem?_eq_some_iff.1 hc).1 hc, fun j c d hc hd => hord j c d (List.getElem?_eq_some_iff.1 hd).1 hc hd⟩⟩
theorem zlN (a b : Int) : Zz [a, b] = some (if a ≠ 0 then a else b) := by
 by_cases ha : a = 0 <;> by_cases hb : b = 0 <;> simp [Zz, zE, idx, ha, hb, Lp.andThen]
def zcx (z : Zc) (m : Int) : Nat → Int
 | 0 => z.offset
 | k + 1 => match z.changes[k]? with
  | some c => if c.at_ ≤ m then c.offset else zcx z m k
  | none => zcx z m k
def off (z : Zc) (m : Int) : Int := zcx z m z.changes.length
def fr (z : Zc) : Nat → Int
 | 0 => 0
 | k + 1 => match z.changes[k]? with
  | some c => c.at_
  | none => 3000001
def ofs (z : Zc) : Nat → Int
 | 0 => z.offset
 | k + 1 => match z.changes[k]? with
  | some c => c.offset
  | none => 0
theorem zma {z : Zc} (hz : zbn z) (k : Nat) (hk : k ≤ z.changes.length) : fr z k < fr z (k + 1) := by
 cases k with
 | zero =>
  rw [fr, fr]
  cases h : z.changes[0]? with
  | none => simp
  | some c => have := (hz.2.1 0 c h).1; simp only; omega
 | succ k =>
  have hc : z.changes[k]? = some z.changes[k] := List.getElem?_eq_getElem (by omega)
  generalize z.changes[k] = c at hc
  rw [fr, fr, hc]
  have h1 := hz.2.1 k c hc
  cases h : z.changes[k + 1]? with
  | none => have := h1.2.1; simp only; omega
  | some d => exact hz.2.2 k c d hc h
theorem zfw {z : Zc} (hz : zbn z) (k : Nat) : ∀ d, k + d ≤ z.changes.length + 1 → fr z k ≤ fr z (k + d)
 | 0, _ => Int.le_refl _
 | d + 1, h => by
  have h1 := zfw hz k d (by omega)
  have h2 := zma hz (k + d) (by omega)
  rw [← Nat.add_assoc]
  omega
theorem zgd (z : Zc) : fr z (z.changes.length + 1) = 3000001 := by
 rw [fr]
 simp
theorem zdx {z : Zc} (hz : zbn z) (k : Nat) (hk : k ≤ z.changes.length + 1) : 0 ≤ fr z k ∧ fr z k ≤ 3000001 := by
 have h1 := zfw hz 0 k (by omega)
 have h2 := zfw hz k (z.changes.length + 1 - k) (by omega)
 rw [Nat.zero_add, fr] at h1
 rw [show k + (z.changes.length + 1 - k) = z.changes.length + 1 by omega, zgd] at h2
 exact ⟨h1, h2⟩
theorem zgu {z : Zc} (hz : zbn z) (k : Nat) : -1440 ≤ ofs z k ∧ ofs z k ≤ 1440 := by
 cases k with
 | zero => exact hz.1
 | succ k =>
  rw [ofs]
  cases h : z.changes[k]? with
  | none => simp
  | some c => exact (hz.2.1 k c h).2.2
theorem zfa {z : Zc} (hz : zbn z) (k : Nat) (hk : k ≤ z.changes.length) (m : Int) (h1 : fr z k ≤ m) (h2 : m < fr z (k + 1)) : off z m = ofs z k := by
 have base : zcx z m k = ofs z k := by
  cases k with
  | zero => rfl
  | succ k =>
   have hc : z.changes[k]? = some z.changes[k] := List.getElem?_eq_getElem (by omega)
   generalize z.changes[k] = c at hc
   rw [fr, hc] at h1
   rw [zcx, ofs, hc]
   simp only at h1 ⊢
   rw [if_pos h1]
 have step : ∀ d, k + d ≤ z.changes.length → zcx z m (k + d) = zcx z m k := by
  intro d
  induction d with
  | zero => intro _; rfl
  | succ d ih =>
   intro hd
   rw [← Nat.add_assoc, zcx, ih (by omega)]
   have hc : z.changes[k + d]? = some z.changes[k + d] := List.getElem?_eq_getElem (by omega)
   have h3 := zfw hz (k + 1) d (by omega)
   rw [show k + 1 + d = k + d + 1 by omega, show fr z (k + d + 1) = z.changes[k + d].at_ by rw [fr, hc]] at h3
   rw [hc]
   simp only at h3 ⊢
   rw [if_neg (by omega)]
 have := step (z.changes.length - k) (by omega)
 rw [show k + (z.changes.length - k) = z.changes.length by omega] at this
 unfold off
 rw [this, base]
theorem QZ (a b : Int) : zj a b = if a < b then -1 else if b < a then 1 else 0 := by
 have h : ∀ x : Int, QL x = false := fun x => by simp [QL]
 unfold zj
 simp only [h, Bool.false_eq_true, if_false]
 by_cases h1 : a < b
 ·simp [h1]
 ·by_cases h2 : b < a <;> simp [h1, h2]
theorem zkE (a b c : Int) : jx [a, b, c] = some (if a ≠ 0 then a else if b ≠ 0 then b else c) := by
 by_cases ha : a = 0 <;> by_cases hb : b = 0 <;> by_cases hc : c = 0 <;> simp [jx, zE, idx, ha, hb, hc, Lp.andThen]
def ShOk (s : zp) : Prop := 0 ≤ s.from_ ∧ s.from_ ≤ 1439 ∧ s.from_ < s.to_ ∧ s.to_ ≤ s.from_ + 1440
def ShLe (p s : zp) : Prop := p.day < s.day ∨ (p.day = s.day ∧ p.from_ ≤ s.from_)
def zhh (l : List zp) : Prop := (∀ (j : Nat) (s : zp), l[j]? = some s → ShOk s) ∧ ∀ (j : Nat) (p s : zp), l[j]? = some p → l[j + 1]? = some s → ShLe p s
theorem zjI (s p : zp) : ∃ b, zbp s p = some b ∧ (b = true → ShLe p s) := by
 unfold zbp
 rw [zkE, Option.bind_some]
 refine ⟨_, rfl, fun h => ?_⟩
 rw [decide_eq_true_eq, QZ, QZ, QZ] at h
 unfold ShLe
 repeat' split at h
 all_goals omega
theorem zgl (l : List zp) (dated : Bool) (hl : l.length ≤ 60) : ∃ r, jj l dated = some r ∧ (r = 0 → zhh l ∧ (dated = true → ∀ (j : Nat) (s : zp), l[j]? = some s → s.day = 0)) := by
 unfold jj
 refine zbQ (fun k _ => (∀ (j : Nat) (s : zp), j < k → l[j]? = some s → ShOk s ∧ (dated = true → s.day = 0)) ∧ ∀ (j : Nat) (p s : zp), j + 1 < k → l[j]? = some p → l[j + 1]? = some s → ShLe p s)
  ⟨fun j s h => absurd h (Nat.not_lt_zero _), fun j p s h => absurd h (Nat.not_lt_zero _)⟩ ?_ ?_
 ·rintro k _ hk ⟨hI1, hI2⟩
  have hc : l[k]? = some l[k] := List.getElem?_eq_getElem hk
  generalize l[k] = s at hc
  rw [zP, hc, Option.bind_some]
  by_cases h1 : (dated && (s.day != 0)) = true
  ·rw [if_pos h1]
   exact .inl ⟨1, rfl, by decide⟩
  rw [if_neg h1]
  have hd : dated = true → s.day = 0 := fun hw => by subst hw; simpa using h1
  by_cases h2 : ((0 ≤ s.day ∧ s.day ≤ 6) ∧ (0 ≤ s.from_ ∧ s.from_ ≤ 1439)) ∧ s.from_ < s.to_ ∧ s.to_ ≤ s.from_ + 1440
  rotate_left
  ·by_cases hw : 0 ≤ s.from_ ∧ s.from_ ≤ 1439
   ·rw [Zi (n := s.from_ + 1440) (by omega) (by omega), if_pos (by simp [zW]; omega)]
    exact .inl ⟨2, rfl, by decide⟩
   ·rw [if_pos (by simp [zW]; omega)]
    exact .inl ⟨2, rfl, by decide⟩
  rw [Zi (n := s.from_ + 1440) (by omega) (by omega), if_neg (by simp [zW]; omega)]
  have new1 : ∀ (j : Nat) (s' : zp), j < k + 1 → l[j]? = some s' → ShOk s' ∧ (dated = true → s'.day = 0) := fun j s' hj hs' => by
   rcases Nat.lt_or_eq_of_le (Nat.le_of_lt_succ hj) with h | rfl
   ·exact hI1 j s' h hs'
   ·rw [hc] at hs'; cases hs'; exact ⟨⟨h2.1.2.1, h2.1.2.2, h2.2.1, h2.2.2⟩, hd⟩
  by_cases h0 : (0 : Int) < (k : Int)
  ·have hp : l[k - 1]? = some l[k - 1] := List.getElem?_eq_getElem (by omega)
   have hw : w64 ((k : Int) - 1) = ((k - 1 : Nat) : Int) := by rw [Zi (by omega) (by omega)]; omega
   rw [if_pos (by simpa using h0), hw, zP, hp, Option.bind_some]
   generalize l[k - 1] = p at hp
   obtain ⟨b, e, h⟩ := zjI s p
   rw [e, Option.bind_some, Option.bind_some]
   cases b with
   | false => exact .inl ⟨5, rfl, by decide⟩
   | true =>
    refine .inr ⟨(), rfl, new1, fun j p' s' hj hp' hs' => ?_⟩
    rcases Nat.lt_or_eq_of_le (Nat.le_of_lt_succ hj) with h3 | h3
    ·exact hI2 j p' s' h3 hp' hs'
    ·obtain rfl : j = k - 1 := by omega
     rw [hp] at hp'; cases hp'
     rw [show k - 1 + 1 = k by omega, hc] at hs'; cases hs'
     exact h rfl
  ·rw [if_neg (by simpa using h0), Option.bind_some]
   exact .inr ⟨(), rfl, new1, fun j p' s' hj hp' hs' => by omega⟩
 ·rintro _ ⟨h1, h2⟩
  exact ⟨0, rfl, fun _ => ⟨⟨fun j s hs => (h1 j s (List.getElem?_eq_some_iff.1 hs).1 hs).1, fun j p s hp hs => h2 j p s (List.getElem?_eq_some_iff.1 hs).1 hp hs⟩, fun hw j s hs => (h1 j s (List.getElem?_eq_some_iff.1 hs).1 hs).2 hw⟩⟩
def SpOk (x : zC) : Prop := -1 ≤ x.day ∧ x.day ≤ 2084 ∧ x.shifts.length ≤ 12 ∧ zhh x.shifts ∧ ∀ (j : Nat) (s : zp), x.shifts[j]? = some s → s.day = 0
structure JC (c : zg) : Prop where
 zone : zbn c.zone
 changes : c.zone.changes.length ≤ 60
 week : zhh c.week
 weeks : c.week.length ≤ 60
 specials : c.specials.length ≤ 200
 special : ∀ (j : Nat) (x : zC), c.specials[j]? = some x → SpOk x
 rising : ∀ (j : Nat) (x y : zC), c.specials[j]? = some x → c.specials[j + 1]? = some y → x.day < y.day
theorem zkK {z : Zc} (h : jp z = some 0) : z.changes.length ≤ 60 := by
 unfold jp at h
 by_cases h1 : (!(zW z.offset (-1440) 1440)) = true
 ·simp [h1] at h
 ·by_cases h2 : (60 : Int) < (z.changes.length : Int)
  ·simp [h1, h2] at h
  ·omega
theorem zlD (c : zg) : ∃ r, ZD c = some r ∧ (r = 0 → JC c) := by
 obtain ⟨r1, a1, c1⟩ := zln c.zone
 unfold ZD
 rw [a1, Option.bind_some]
 by_cases h1 : r1 = 0
 rotate_left
 ·rw [if_pos (by simpa using h1)]
  exact ⟨r1, rfl, fun h => absurd h h1⟩
 subst h1
 rw [if_neg (by simp)]
 by_cases h2 : c.week.length ≤ 60 ∧ c.specials.length ≤ 200
 rotate_left
 ·rw [if_pos (by simp; omega)]
  exact ⟨4, rfl, fun h => absurd h (by decide)⟩
 rw [if_neg (by simp; omega)]
 obtain ⟨r2, a2, c2⟩ := zgl c.week false h2.1
 rw [a2, Option.bind_some]
 by_cases h3 : r2 = 0
 rotate_left
 ·rw [if_pos (by simpa using h3)]
  exact ⟨r2, rfl, fun h => absurd h h3⟩
 subst h3
 rw [if_neg (by simp)]
 refine zbQ (fun k _ => (∀ (j : Nat) (x : zC), j < k → c.specials[j]? = some x → SpOk x) ∧ ∀ (j : Nat) (x y : zC), j + 1 < k → c.specials[j]? = some x → c.specials[j + 1]? = some y → x.day < y.day)
  ⟨fun j s h => absurd h (Nat.not_lt_zero _), fun j p s h => absurd h (Nat.not_lt_zero _)⟩ ?_ ?_
 ·rintro k _ hk ⟨hI1, hI2⟩
  have hc : c.specials[k]? = some c.specials[k] := List.getElem?_eq_getElem hk
  have hb := zfD hk (by omega) (fun x96 : zC => decide ((c.specials[k]).day ≤ x96.day))
  generalize c.specials[k] = x at hc hb
  have hp : c.specials[k - 1]? = some c.specials[k - 1] := List.getElem?_eq_getElem (by omega)
  rw [zP, hc, Option.bind_some, hb]
  rw [hp]
  generalize c.specials[k - 1] = p at hp
  dsimp only
  by_cases h4 : zW x.day (-1) 2084 = true
  rotate_left
  ·rw [if_pos (by simpa using h4)]
   exact .inl ⟨2, rfl, by decide⟩
  rw [if_neg (by simpa using h4), Option.bind_some]
  by_cases h5 : (decide (0 < k) && decide (x.day ≤ p.day)) = true
  ·rw [if_pos h5]
   exact .inl ⟨5, rfl, by decide⟩
  rw [if_neg h5]
  by_cases h6 : (12 : Int) < (x.shifts.length : Int)
  ·rw [if_pos (by simpa using h6)]
   exact .inl ⟨4, rfl, by decide⟩
  rw [if_neg (by simpa using h6)]
  obtain ⟨r3, a3, c3⟩ := zgl x.shifts true (by omega)
  rw [a3, Option.bind_some]
  by_cases h7 : r3 = 0
  rotate_left
  ·rw [if_pos (by simpa using h7)]
   exact .inl ⟨r3, rfl, h7⟩
  subst h7
  rw [if_neg (by simp)]
  rw [zbN] at h4
  have hx : SpOk x := ⟨h4.1, h4.2, by omega, (c3 rfl).1, (c3 rfl).2 rfl⟩
  refine .inr ⟨(), rfl, fun j y hj hy => ?_, fun j y z hj hy hz => ?_⟩
  ·rcases Nat.lt_or_eq_of_le (Nat.le_of_lt_succ hj) with h | rfl
   ·exact hI1 j y h hy
   ·rw [hc] at hy; cases hy; exact hx
  ·rcases Nat.lt_or_eq_of_le (Nat.le_of_lt_succ hj) with h | h
   ·exact hI2 j y z h hy hz
   ·obtain rfl : j = k - 1 := by omega
    rw [show k - 1 + 1 = k by omega, hc] at hz; cases hz
    rw [hp] at hy; cases hy
    simp only [Bool.and_eq_true, decide_eq_true_eq] at h5
    omega
 ·rintro _ ⟨q1, q2⟩
  exact ⟨0, rfl, fun _ => ⟨c1 rfl, zkK a1, (c2 rfl).1, h2.1, h2.2, fun j x hx => q1 j x (List.getElem?_eq_some_iff.1 hx).1 hx, fun j x y hx hy => q2 j x y (List.getElem?_eq_some_iff.1 hy).1 hx hy⟩⟩
end Go.Proofs.YtiblagcmjobknaaGreatDoor.M
namespace Go.Proofs.YtiblagcmjobknaaGreatDoor.M
open Go Go.Pu
set_option linter.unusedSimpArgs false
set_option linter.unusedVariables false
theorem zai {α : Type} {R : α → α → Prop} (tr : ∀ a b c, R a b → R b c → R a c) : ∀ (l : List α), (∀ (j : Nat) (p s : α), l[j]? = some p → l[j + 1]? = some s → R p s) → l.Pairwise R
 | [], _ => .nil
 | [a], _ => by simp
 | a :: b :: l, h =>
  have ih := zai tr (b :: l) fun j p s hp hs => h (j + 1) p s (by simpa using hp) (by simpa using hs)
  List.pairwise_cons.2 ⟨fun s hs => by
   have hab := h 0 a b rfl rfl
   rcases List.mem_cons.1 hs with rfl | hs
   ·exact hab
   ·exact tr _ _ _ hab ((List.pairwise_cons.1 ih).1 s hs), ih⟩
theorem zlK (a : Int) (h : -4000000000 ≤ a) (h' : a ≤ 4000000000) : jf a 7 = some (a / 7) := by
 have hd := zgE a 7 (by decide)
 have hq : quo a 7 = some (a.tdiv 7) := by rw [quo, if_neg (by decide), Zi (by omega) (by omega)]
 have hr : rem a 7 = some (a.tmod 7) := by rw [rem, if_neg (by decide)]
 unfold jf
 simp only [hq, hr, Option.bind_some]
 by_cases hn : a.tmod 7 < 0
 ·simp only [hn, decide_true, if_true, Option.bind_some]
  rw [Zi (by omega) (by omega)]
  congr 1
  omega
 ·simp only [hn, decide_false, Bool.false_eq_true, if_false, Option.bind_some]
  congr 1
  omega
theorem zgC (a : Int) (h : -4000000000 ≤ a) (h' : a ≤ 4000000000) : jf a 1440 = some (a / 1440) := by
 have hd := zgE a 1440 (by decide)
 have hq : quo a 1440 = some (a.tdiv 1440) := by rw [quo, if_neg (by decide), Zi (by omega) (by omega)]
 have hr : rem a 1440 = some (a.tmod 1440) := by rw [rem, if_neg (by decide)]
 unfold jf
 simp only [hq, hr, Option.bind_some]
 by_cases hn : a.tmod 1440 < 0
 ·simp only [hn, decide_true, if_true, Option.bind_some]
  rw [Zi (by omega) (by omega)]
  congr 1
  omega
 ·simp only [hn, decide_false, Bool.false_eq_true, if_false, Option.bind_some]
  congr 1
  omega
def zaM (c : zg) (day : Int) : List zp :=
 match c.specials.find? (fun x => x.day == day) with
 | some x => x.shifts
 | none => (c.week.filter fun s => s.day == day % 7).map fun s => ⟨0, s.from_, s.to_⟩
theorem zjs (a b c : zp) (h1 : ShLe a b) (h2 : ShLe b c) : ShLe a c := by
 unfold ShLe at *
 omega
theorem zfl {l : List zp} (h : zhh l) : l.Pairwise ShLe := zai zjs l h.2
theorem zca {c : zg} (hc : JC c) (day : Int) : (∀ s ∈ zaM c day, ShOk s) ∧ (zaM c day).Pairwise (fun p s => p.from_ ≤ s.from_) ∧ (zaM c day).length ≤ 60 := by
 unfold zaM
 cases hf : c.specials.find? (fun x => x.day == day) with
 | some x =>
  simp only
  have hm := List.mem_of_find?_eq_some hf
  obtain ⟨j, hj⟩ := List.mem_iff_getElem?.1 hm
  obtain ⟨_, _, h3, h4, h5⟩ := hc.special j x hj
  refine ⟨fun s hs => ?_, ?_, by omega⟩
  ·obtain ⟨i, hi⟩ := List.mem_iff_getElem?.1 hs
   exact h4.1 i s hi
  ·refine (List.Pairwise.imp_of_mem ?_ (zfl h4))
   intro a b ha hb hab
   obtain ⟨i, hi⟩ := List.mem_iff_getElem?.1 ha
   obtain ⟨k, hk⟩ := List.mem_iff_getElem?.1 hb
   have e1 := h5 i a hi
   have e2 := h5 k b hk
   unfold ShLe at hab
   omega
 | none =>
  simp only
  refine ⟨fun s hs => ?_, ?_, ?_⟩
  ·obtain ⟨x, hx, rfl⟩ := List.mem_map.1 hs
   obtain ⟨i, hi⟩ := List.mem_iff_getElem?.1 (List.mem_filter.1 hx).1
   exact hc.week.1 i x hi
  ·refine List.pairwise_map.2 ?_
   refine List.Pairwise.imp_of_mem ?_ ((zfl hc.week).filter _)
   intro a b ha hb hab
   have e1 := (List.mem_filter.1 ha).2
   have e2 := (List.mem_filter.1 hb).2
   simp only [beq_iff_eq] at e1 e2
   unfold ShLe at hab
   show a.from_ ≤ b.from_
   omega
  ·rw [List.length_map]
   exact Nat.le_trans (List.length_filter_le _ _) hc.weeks
theorem zkf {R : Type} (l : List zp) (h60 : l.length ≤ 60) (day wd : Int) (body : Nat → List zp → Option (Ctl (List zp) R))
  (hb : ∀ k s x, l[k]? = some x → body k s = Option.bind (Option.bind (if (x.day == wd) = true then Option.bind (zt 5864062014805 s ([(⟨0, x.from_, x.to_⟩ : zp)] : List zp)) fun x143 => some x143 else some s) fun s126 => some s126) fun s102 => some (.nx s102)) :
  zE body l.length 0 [] = some (.fin ((l.filter fun s => s.day == wd).map fun s => ⟨0, s.from_, s.to_⟩)) := by
 obtain ⟨t, h, rfl⟩ := Ze (b := body) l.length (fun k s => s = ((l.take k).filter fun s => s.day == wd).map fun s => ⟨0, s.from_, s.to_⟩) (s := []) (by simp) (by
  rintro k _ hk rfl
  have hc : l[k]? = some l[k] := List.getElem?_eq_getElem hk
  rw [hb k _ _ hc]
  generalize l[k] = x at hc
  have hlen : (((l.take k).filter fun s => s.day == wd).map fun s => (⟨0, s.from_, s.to_⟩ : zp)).length ≤ 60 := by
   rw [List.length_map]
   refine Nat.le_trans (List.length_filter_le _ _) ?_
   rw [List.length_take]
   omega
  rw [List.take_add_one, hc, List.filter_append, List.map_append]
  generalize (((l.take k).filter fun s => s.day == wd).map fun s => (⟨0, s.from_, s.to_⟩ : zp)) = acc at hlen
  by_cases hw : (x.day == wd) = true
  ·rw [if_pos hw, zt, if_pos (by simp; omega)]
   exact ⟨_, rfl, by simp [hw]⟩
  ·rw [if_neg hw]
   exact ⟨_, rfl, by simp [hw]⟩)
 rw [h, List.take_of_length_le (Nat.le_refl _)]
theorem zlp (n : Nat) (hn : n ≤ 1000) : Option.bind (shr .u64 (IntKind.wrap .u64 (w64 (n : Int))) 1) (fun x => some (IntKind.wrap .i64 x)) = some ((n / 2 : Nat) : Int) := by
 have h1 : w64 (n : Int) = (n : Int) := Zi (by omega) (by omega)
 have h2 : IntKind.wrap .u64 (n : Int) = (n : Int) := by
  simp only [IntKind.wrap, IntKind.bits, IntKind.signed]
  simp
  omega
 have h3 : IntKind.wrap .i64 ((n : Int).fdiv 2) = ((n / 2 : Nat) : Int) := by
  have : (n : Int).fdiv 2 = ((n / 2 : Nat) : Int) := by
   rw [Int.fdiv_eq_ediv_of_nonneg _ (by decide)]
   omega
  rw [this]
  exact Zi (by omega) (by omega)
 rw [h1, h2, shr, if_neg (by decide)]
 have e : (2 : Int) ^ (min (1 : Int).toNat IntKind.u64.bits) = 2 := by decide
 rw [e]
 simp only [Option.bind_some, h3]
theorem zjt {l : List zC} (hl : l.length ≤ 200) (hs : l.Pairwise fun x y => x.day < y.day) (day : Int) :
  ∃ a : Nat, a ≤ l.length ∧ Za l day (fun y18 y19 => ZL y18 y19) = some ((a : Int), decide (∃ x, l[a]? = some x ∧ x.day = day)) ∧ (∀ q x, q < a → l[q]? = some x → x.day < day) ∧ ∀ q x, a ≤ q → l[q]? = some x → day ≤ x.day := by
 have hp : ∀ (p q : Nat) (x y : zC), p < q → l[p]? = some x → l[q]? = some y → x.day < y.day := fun p q x y hpq hx hy => by
  obtain ⟨h1, rfl⟩ := List.getElem?_eq_some_iff.1 hx
  obtain ⟨h2, rfl⟩ := List.getElem?_eq_some_iff.1 hy
  exact List.pairwise_iff_getElem.1 hs p q h1 h2 hpq
 unfold Za
 obtain ⟨o, ho, a, rfl, ha, hlo, hhi⟩ := zar (R := Int × Bool) (body := fun s12 : Int × Int => if (decide (s12.1 < s12.2)) = true then Option.bind (Option.bind (shr .u64 (IntKind.wrap .u64 (w64 (s12.1 + s12.2))) 1) fun x32 => Option.bind (idx l (IntKind.wrap .i64 x32)) fun x33 => Option.bind (ZL x33 day) fun x40 => Option.bind (if (decide (x40 < 0)) = true then some (w64 ((IntKind.wrap .i64 x32) + 1), s12.2) else some (s12.1, IntKind.wrap .i64 x32)) fun s45 => some (s45.1, s45.2)) fun s25 => some (.nx (s25.1, s25.2)) else some (.bk (s12.1, s12.2)))
  (fun s => ∃ a b : Nat, s = ((a : Int), (b : Int)) ∧ a ≤ b ∧ b ≤ l.length ∧ (∀ q x, q < a → l[q]? = some x → x.day < day) ∧ ∀ q x, b ≤ q → l[q]? = some x → day ≤ x.day) (fun s => (s.2 - s.1).toNat)
  (fun o => ∃ a : Nat, o = .fin ((a : Int), (a : Int)) ∧ a ≤ l.length ∧ (∀ q x, q < a → l[q]? = some x → x.day < day) ∧ ∀ q x, a ≤ q → l[q]? = some x → day ≤ x.day) (s := (0, (l.length : Int)))
  ⟨0, l.length, rfl, Nat.zero_le _, Nat.le_refl _, fun q x h => absurd h (Nat.not_lt_zero _), fun q x h hx => absurd (List.getElem?_eq_some_iff.1 hx).1 (by omega)⟩ (by
  rintro _ ⟨a, b, rfl, hab, hb, h1, h2⟩
  simp only
  by_cases hlt : (a : Int) < (b : Int)
  ·have hm := zlp (a + b) (by omega)
   cases hsh : shr .u64 (IntKind.wrap .u64 (w64 ((a : Int) + (b : Int)))) 1 with
   | none => rw [show ((a + b : Nat) : Int) = (a : Int) + (b : Int) by omega, hsh] at hm; simp at hm
   | some v =>
    rw [show ((a + b : Nat) : Int) = (a : Int) + (b : Int) by omega, hsh] at hm
    simp only [Option.bind_some, Option.some.injEq] at hm
    have hmb : (a + b) / 2 < l.length := by omega
    have hx : l[(a + b) / 2]? = some l[(a + b) / 2] := List.getElem?_eq_getElem hmb
    generalize l[(a + b) / 2] = x at hx
    simp only [hlt, decide_true, if_true, Option.bind_some, hm, zP, hx, ZL, QZ]
    by_cases hd : x.day < day
    ·simp only [hd, if_true, show (-1 : Int) < 0 by decide, decide_true, Option.bind_some]
     rw [Zi (by omega) (by omega)]
     refine ⟨_, rfl, ⟨(a + b) / 2 + 1, b, by congr 1, by omega, hb, fun q y hq hy => ?_, h2⟩, by simp only; omega⟩
     rcases Nat.lt_or_eq_of_le (Nat.le_of_lt_succ hq) with h | rfl
     ·have := hp q _ y x h hy hx; omega
     ·rw [hx] at hy; cases hy; exact hd
    ·have hn : ¬ (if x.day < day then (-1 : Int) else if day < x.day then 1 else 0) < 0 := by
      rw [if_neg hd]; split <;> omega
     simp only [hn, decide_false, Bool.false_eq_true, if_false, Option.bind_some]
     refine ⟨_, rfl, ⟨a, (a + b) / 2, rfl, by omega, by omega, h1, fun q y hq hy => ?_⟩, by simp only; omega⟩
     rcases Nat.lt_or_eq_of_le hq with h | rfl
     ·have := hp _ q x y h hx hy; omega
     ·rw [hx] at hy; cases hy; omega
  ·simp only [hlt, decide_false, Bool.false_eq_true, if_false]
   obtain rfl : a = b := by omega
   exact ⟨_, rfl, a, rfl, hb, h1, h2⟩)
 rw [ho]
 refine ⟨a, ha, ?_, hlo, hhi⟩
 simp only [Option.bind_some, Lp.andThen_fin]
 by_cases hal : (a : Int) < (l.length : Int)
 ·have hx : l[a]? = some l[a] := List.getElem?_eq_getElem (by omega)
  generalize l[a] = x at hx
  simp only [hal, decide_true, if_true, zP, hx, Option.bind_some, ZL, QZ]
  congr 2
  rw [Bool.eq_iff_iff]
  simp only [beq_iff_eq, decide_eq_true_eq, Option.some.injEq, exists_eq_left']
  split
  ·omega
  ·split <;> omega
 ·simp only [hal, decide_false, Bool.false_eq_true, if_false, Option.bind_some]
  congr 2
  have : l[a]? = none := List.getElem?_eq_none (by omega)
  simp [this]
theorem zhS {c : zg} (hc : JC c) (day : Int) (h : -100000 ≤ day) (h' : day ≤ 100000) : Qk c day = some (zaM c day) := by
 unfold Qk
 have hs : c.specials.Pairwise fun x y => x.day < y.day := zai (R := fun x y : zC => x.day < y.day) (fun a b c h1 h2 => Int.lt_trans h1 h2) _ hc.rising
 obtain ⟨a, ha, e, hlo, hhi⟩ := zjt hc.specials hs day
 rw [e]
 simp only [Option.bind_some]
 unfold zaM
 by_cases hx : ∃ x, c.specials[a]? = some x ∧ x.day = day
 ·simp only [hx, decide_true, if_true]
  obtain ⟨x, hx1, hx2⟩ := hx
  have hf : c.specials.find? (fun x => x.day == day) = some x := by
   obtain ⟨h1, h2⟩ := List.getElem?_eq_some_iff.1 hx1
   refine List.find?_eq_some_iff_getElem.2 ⟨by simpa using hx2, a, h1, h2, fun j hj => ?_⟩
   have := hlo j _ hj (List.getElem?_eq_getElem (by omega))
   simp
   omega
  rw [hf, zP, hx1]
  obtain ⟨_, _, h3, _, _⟩ := hc.special a x hx1
  unfold zM
  simp only [Option.bind_some]
  rw [zt, if_pos (by simp; omega)]
  rfl
 ·simp only [hx, decide_false, Bool.false_eq_true, if_false]
  have hf : c.specials.find? (fun x => x.day == day) = none := by
   refine List.find?_eq_none.2 fun x hm => ?_
   obtain ⟨q, hq⟩ := List.mem_iff_getElem?.1 hm
   intro hd
   simp only [beq_iff_eq] at hd
   rcases Nat.lt_or_ge q a with h1 | h1
   ·have := hlo q x h1 hq; omega
   ·rcases Nat.lt_or_eq_of_le h1 with h2 | rfl
    ·obtain ⟨h3, h4⟩ := List.getElem?_eq_some_iff.1 hq
     have hxa : c.specials[a]? = some c.specials[a] := List.getElem?_eq_getElem (by omega)
     have := List.pairwise_iff_getElem.1 hs a q (by omega) h3 h2
     have h5 := hhi a _ (Nat.le_refl _) hxa
     rw [h4] at this
     omega
    ·exact hx ⟨x, hq, hd⟩
  rw [hf]
  simp only
  rw [zkf c.week hc.weeks day (day % 7) _ (by
   intro k s x hx
   simp only [zP, hx, Option.bind_some, zlK day (by omega) (by omega)]
   rw [Zi (n := 7 * (day / 7)) (by omega) (by omega), Zi (by omega) (by omega), show day - 7 * (day / 7) = day % 7 by omega])]
  rfl
def Opn (c : zg) (m : Int) : Prop := ∃ day s, s ∈ zaM c day ∧ day * 1440 + s.from_ ≤ m + off c.zone m ∧ m + off c.zone m < day * 1440 + s.to_
end Go.Proofs.YtiblagcmjobknaaGreatDoor.M
namespace Go.Proofs.YtiblagcmjobknaaGreatDoor.M
open Go Go.Pu
set_option linter.unusedSimpArgs false
set_option linter.unusedVariables false
def prt (z : Zc) (k : Nat) : zO := ⟨fr z k, fr z (k + 1), ofs z k⟩
theorem zjS (z : Zc) (h60 : z.changes.length ≤ 60) : Jo z = some ((List.range (z.changes.length + 1)).map (prt z)) := by
 unfold Jo
 obtain ⟨t, h, rfl⟩ := Ze (R := List zO) (b := fun k24 s32 => Option.bind (idx z.changes (k24 : Int)) fun x47 => Option.bind (idx s32 (w64 ((s32.length : Int) - 1))) fun x61 => Option.bind (setI s32 (w64 ((s32.length : Int) - 1)) ({ (x61 : zO) with to_ := x47.at_ })) fun x67 => Option.bind (zt 5864062014805 x67 ([(⟨x47.at_, 3000001, x47.offset⟩ : zO)] : List zO)) fun x78 => some (.nx x78)) z.changes.length
  (fun k s => s = (List.range k).map (prt z) ++ [⟨fr z k, 3000001, ofs z k⟩]) (s := [(⟨0, 3000001, z.offset⟩ : zO)]) rfl (by
   rintro k _ hk rfl
   have hc : z.changes[k]? = some z.changes[k] := List.getElem?_eq_getElem hk
   rw [zhj _ _ hk]
   generalize z.changes[k] = c at hc
   have hlen : (((List.range k).map (prt z) ++ [(⟨fr z k, 3000001, ofs z k⟩ : zO)]).length : Int) - 1 = (k : Int) := by simp
   have hw : w64 ((((List.range k).map (prt z) ++ [(⟨fr z k, 3000001, ofs z k⟩ : zO)]).length : Int) - 1) = (k : Int) := by rw [hlen]; exact Zi (by omega) (by omega)
   rw [hw, zP]
   have hg : ((List.range k).map (prt z) ++ [(⟨fr z k, 3000001, ofs z k⟩ : zO)])[k]? = some ⟨fr z k, 3000001, ofs z k⟩ := by
    rw [List.getElem?_append_right (by simp)]
    simp
   rw [hg]
   have hs : setI ((List.range k).map (prt z) ++ [(⟨fr z k, 3000001, ofs z k⟩ : zO)]) (k : Int) (⟨fr z k, c.at_, ofs z k⟩ : zO) = some ((List.range k).map (prt z) ++ [(⟨fr z k, c.at_, ofs z k⟩ : zO)]) := by
    rw [setI, if_pos ⟨by omega, by simp⟩]
    congr 1
    rw [Int.toNat_natCast, List.set_append_right _ _ (by simp)]
    simp
   simp only [Option.bind_some, hs]
   have ha : zt 5864062014805 ((List.range k).map (prt z) ++ [(⟨fr z k, c.at_, ofs z k⟩ : zO)]) [(⟨c.at_, 3000001, c.offset⟩ : zO)] = some (((List.range k).map (prt z) ++ [(⟨fr z k, c.at_, ofs z k⟩ : zO)]) ++ [(⟨c.at_, 3000001, c.offset⟩ : zO)]) := by
    rw [zt, if_pos (by simp; omega)]
   rw [ha]
   refine ⟨_, rfl, ?_⟩
   have e1 : fr z (k + 1) = c.at_ := by rw [fr, hc]
   have e2 : ofs z (k + 1) = c.offset := by rw [ofs, hc]
   rw [List.range_succ, List.map_append, e1, e2]
   simp [prt, e1])
 rw [h]
 simp only [Option.bind_some, Lp.andThen_fin]
 congr 1
 rw [List.range_succ, List.map_append]
 simp [prt, zgd]
def qb {X S : Type} (y : X → S → Option (Bool × S)) : List X → S → Option (Bool × S)
 | [], s => some (true, s)
 | x :: l, s => Option.bind (y x s) fun r => if r.1 = true then qb y l r.2 else some (false, r.2)
theorem zeo {X S : Type} (y : X → S → Option (Bool × S)) (l m : List X) (s : S) : qb y (l ++ m) s = Option.bind (qb y l s) fun r => if r.1 = true then qb y m r.2 else some (false, r.2) := by
 induction l generalizing s with
 | nil => simp [qb]
 | cons x l ih =>
  rw [List.cons_append, qb, qb]
  cases y x s with
  | none => rfl
  | some r =>
   simp only [Option.bind_some]
   by_cases h : r.1 = true
   ·rw [if_pos h, if_pos h, ih]
   ·rw [if_neg h, if_neg h]; simp
theorem zgL {S R : Type} (body : S → Option (Ctl S R)) (s : S) : QT body s = Option.bind (body s) fun x => match x with
  | .nx s' => QT body s'
  | .bk s' => some (.fin s')
  | .rt r => some (.rt r) := by
 ext r
 rw [zaj]
 constructor
 ·rintro ⟨n, hn⟩
  cases n with
  | zero => simp [qJ] at hn
  | succ n =>
   rw [qJ] at hn
   cases hb : body s with
   | none => rw [hb] at hn; cases hn
   | some x =>
    rw [hb] at hn
    cases x with
    | nx s' => exact zaj.2 ⟨n, hn⟩
    | bk s' => exact hn
    | rt r => exact hn
 ·intro h
  cases hb : body s with
  | none => rw [hb] at h; cases h
  | some x =>
   rw [hb] at h
   cases x with
   | nx s' =>
    obtain ⟨n, hn⟩ := zaj.1 h
    exact ⟨n + 1, by rw [qJ, hb]; exact hn⟩
   | bk s' => exact ⟨1, by rw [qJ, hb]; exact h⟩
   | rt r => exact ⟨1, by rw [qJ, hb]; exact h⟩
def Qj (o a b day : Int) (s : zp) : zr := ⟨if a < day * 1440 - o + s.from_ then day * 1440 - o + s.from_ else a, if day * 1440 - o + s.to_ < b then day * 1440 - o + s.to_ else b⟩
def zbZ (c : zg) (o a b day : Int) : List zr := ((zaM c day).map (Qj o a b day)).filter fun x => decide (x.from_ < x.to_)
theorem zkl {c : zg} (hc : JC c) (p : zO) (a b day : Int) {S : Type} (y : zr → S → Option (Bool × S)) (s : S) (h : -10000 ≤ day) (h' : day ≤ 10000) (ho : -1440 ≤ p.offset ∧ p.offset ≤ 1440) :
  qj day c p a b y s = qb y (zbZ c p.offset a b day) s := by
 unfold qj zbZ
 rw [zhS hc day (by omega) (by omega)]
 have hok := (zca hc day).1
 simp only [Option.bind_some]
 rw [Zi (n := day * 1440) (by omega) (by omega), Zi (n := day * 1440 - p.offset) (by omega) (by omega)]
 generalize zaM c day = l at hok
 rw [zbl l (fun _ x25 s25 => Option.bind (if (decide ((Qj p.offset a b day x25).from_ < (Qj p.offset a b day x25).to_)) = true then (Option.bind (y (Qj p.offset a b day x25) s25) fun x75 => some (!x75.1, x75.2)) else (some (false, s25))) fun s64 => if s64.1 = true then some (.rt (false, s64.2)) else some (.nx s64.2)) _ (by
  intro k s25 x hx
  obtain ⟨o1, o2, o3, o4⟩ := hok x (List.mem_of_getElem? hx)
  simp only [zP, hx, Option.bind_some]
  rw [Zi (n := day * 1440 - p.offset + x.from_) (by omega) (by omega), Zi (n := day * 1440 - p.offset + x.to_) (by omega) (by omega)]
  rfl)]
 clear hok
 generalize 0 = k
 induction l generalizing k s with
 | nil => rfl
 | cons x l ih =>
  rw [forL, List.map_cons]
  by_cases hx : (Qj p.offset a b day x).from_ < (Qj p.offset a b day x).to_
  ·rw [List.filter_cons_of_pos (by simpa using hx), qb]
   simp only [hx, decide_true, if_true]
   cases y (Qj p.offset a b day x) s with
   | none => rfl
   | some r =>
    obtain ⟨r1, r2⟩ := r
    cases r1 with
    | true =>
     simp only [Option.bind_some, Bool.not_true, Bool.false_eq_true, if_false, if_true]
     exact ih r2 (k + 1)
    | false => simp [Lp.andThen]
  ·rw [List.filter_cons_of_neg (by simpa using hx)]
   simp only [hx, decide_false, Bool.false_eq_true, if_false, Option.bind_some]
   exact ih s (k + 1)
def zaF (c : zg) (o a b : Int) : Int → Nat → List zr
 | _, 0 => []
 | d, n + 1 => zbZ c o a b d ++ zaF c o a b (d + 1) n
theorem zkT {c : zg} (hc : JC c) (p : zO) (a b hi : Int) {S : Type} (y : zr → S → Option (Bool × S)) (ho : -1440 ≤ p.offset ∧ p.offset ≤ 1440) (hb : 0 ≤ b ∧ b ≤ 4000000) (hhi : hi = (b - 1 + p.offset) / 1440) :
  ∀ (n : Nat) (d : Int) (s : S), -5000 ≤ d → d + n = hi + 1 →
   QT (fun s93 => Option.bind (jf (w64 ((w64 (b - 1)) + p.offset)) 1440) fun x105 => if (decide (s93.1 ≤ x105)) = true then Option.bind (qj s93.1 c p a b y s93.2) fun x107 => if (!x107.1) = true then some (.rt x107.2) else some (.nx (w64 (s93.1 + 1), x107.2)) else some (.bk (s93.1, s93.2))) (d, s) =
    Option.bind (qb y (zaF c p.offset a b d n) s) fun r => some (if r.1 = true then Lp.fin (hi + 1, r.2) else Lp.rt r.2) := by
 have hf : jf (w64 ((w64 (b - 1)) + p.offset)) 1440 = some hi := by
  rw [Zi (n := b - 1) (by omega) (by omega), Zi (by omega) (by omega), zgC _ (by omega) (by omega), hhi]
 simp only [hf, Option.bind_some]
 intro n
 induction n with
 | zero =>
  intro d s hd hn
  rw [zgL]
  have : ¬ d ≤ hi := by omega
  simp only [this, decide_false, Bool.false_eq_true, if_false, zaF, qb, Option.bind_some, if_true]
  rw [show d = hi + 1 by omega]
 | succ n ih =>
  intro d s hd hn
  rw [zgL]
  have : d ≤ hi := by omega
  simp only [this, decide_true, if_true]
  rw [zkl hc p a b d y s (by omega) (by omega) ho, zaF, zeo]
  cases qb y (zbZ c p.offset a b d) s with
  | none => rfl
  | some r =>
   obtain ⟨r1, r2⟩ := r
   cases r1 with
   | true =>
    simp only [Option.bind_some, Bool.not_true, Bool.false_eq_true, if_false, if_true]
    rw [Zi (by omega) (by omega)]
    exact ih (d + 1) r2 (by omega) (by omega)
   | false => simp
def zcS (c : zg) (o a b : Int) : List zr := if b ≤ a then [] else zaF c o a b ((a + o) / 1440 - 1) (((b - 1 + o) / 1440 - (a + o) / 1440 + 2).toNat)
def zdK (c : zg) (from_ to_ : Int) (p : zO) : List zr := zcS c p.offset (if from_ < p.from_ then p.from_ else from_) (if p.to_ < to_ then p.to_ else to_)
def shL (c : zg) (from_ to_ : Int) : List zr := ((List.range (c.zone.changes.length + 1)).map (prt c.zone)).flatMap (zdK c from_ to_)
theorem zjf {c : zg} (hc : JC c) (from_ to_ : Int) (hf : 0 ≤ from_ ∧ from_ ≤ 3000001) (ht : 0 ≤ to_ ∧ to_ ≤ 3000001) {S : Type} (y : zr → S → Option (Bool × S)) (s : S) :
  Qq y s c from_ to_ = (qb y (shL c from_ to_) s).map (·.2) := by
 unfold Qq shL
 rw [zjS _ hc.changes]
 simp only [Option.bind_some]
 have hp : ∀ p ∈ (List.range (c.zone.changes.length + 1)).map (prt c.zone), (0 ≤ p.from_ ∧ p.from_ ≤ 3000001) ∧ (0 ≤ p.to_ ∧ p.to_ ≤ 3000001) ∧ (-1440 ≤ p.offset ∧ p.offset ≤ 1440) := by
  intro p hp
  obtain ⟨k, hk, rfl⟩ := List.mem_map.1 hp
  have hk' := List.mem_range.1 hk
  exact ⟨zdx hc.zone k (by omega), zdx hc.zone (k + 1) (by omega), zgu hc.zone k⟩
 generalize (List.range (c.zone.changes.length + 1)).map (prt c.zone) = l at hp
 rw [zbl l (fun _ x s => Option.bind (qb y (zdK c from_ to_ x) s) fun r => if r.1 = true then some (.nx r.2) else some (.rt r.2)) _ (by
  intro k s28 x hx
  obtain ⟨p1, p2, p3⟩ := hp x (List.mem_of_getElem? hx)
  simp only [zP, hx, Option.bind_some, zdK, zcS]
  by_cases hle : (if x.to_ < to_ then x.to_ else to_) ≤ (if from_ < x.from_ then x.from_ else from_)
  ·simp only [hle, decide_true, if_true, Option.bind_some, Lp.andThen_fin, qb]
  ·simp only [hle, decide_false, Bool.false_eq_true, if_false]
   generalize hga : (if from_ < x.from_ then x.from_ else from_) = a at hle
   generalize hgb : (if x.to_ < to_ then x.to_ else to_) = b at hle
   have ha : 0 ≤ a ∧ a ≤ 3000001 := by split at hga <;> omega
   have hb : 0 ≤ b ∧ b ≤ 3000001 := by split at hgb <;> omega
   rw [Zi (n := a + x.offset) (by omega) (by omega), zgC _ (by omega) (by omega)]
   simp only [Option.bind_some]
   rw [Zi (n := (a + x.offset) / 1440 - 1) (by omega) (by omega)]
   rw [zkT hc x a b ((b - 1 + x.offset) / 1440) y p3 (by omega) rfl (((b - 1 + x.offset) / 1440 - (a + x.offset) / 1440 + 2).toNat) ((a + x.offset) / 1440 - 1) s28 (by omega) (by omega)]
   cases qb y (zaF c x.offset a b ((a + x.offset) / 1440 - 1) (((b - 1 + x.offset) / 1440 - (a + x.offset) / 1440 + 2).toNat)) s28 with
   | none => rfl
   | some r =>
    obtain ⟨r1, r2⟩ := r
    cases r1 <;> simp [Lp.andThen])]
 clear hp
 generalize 0 = k
 induction l generalizing k s with
 | nil => rfl
 | cons x l ih =>
  rw [forL, List.flatMap_cons, zeo]
  cases qb y (zdK c from_ to_ x) s with
  | none => rfl
  | some r =>
   obtain ⟨r1, r2⟩ := r
   cases r1 with
   | true =>
    simp only [Option.bind_some, if_true]
    exact ih r2 (k + 1)
   | false => simp [Lp.andThen]
theorem zdF (c : zg) (o a b : Int) (x : zr) : ∀ (n : Nat) (d : Int), x ∈ zaF c o a b d n ↔ ∃ day s, d ≤ day ∧ day < d + n ∧ s ∈ zaM c day ∧ x = Qj o a b day s ∧ x.from_ < x.to_
 | 0, d => by
  simp only [zaF, List.not_mem_nil, false_iff]
  rintro ⟨day, s, h1, h2, _⟩
  omega
 | n + 1, d => by
  rw [zaF, List.mem_append, zdF c o a b x n (d + 1)]
  simp only [zbZ, List.mem_filter, List.mem_map, decide_eq_true_eq]
  constructor
  ·rintro (⟨⟨s, hs, rfl⟩, h⟩ | ⟨day, s, h1, h2, h3, h4, h5⟩)
   ·exact ⟨d, s, by omega, by omega, hs, rfl, h⟩
   ·exact ⟨day, s, by omega, by omega, h3, h4, h5⟩
  ·rintro ⟨day, s, h1, h2, h3, rfl, h5⟩
   by_cases hd : day = d
   ·subst hd
    exact .inl ⟨⟨s, h3, rfl⟩, h5⟩
   ·exact .inr ⟨day, s, by omega, by omega, h3, rfl, h5⟩
theorem zeQ {c : zg} (hc : JC c) (o a b : Int) : ∀ (n : Nat) (d : Int), (zaF c o a b d n).Pairwise fun x y => x.from_ ≤ y.from_
 | 0, d => .nil
 | n + 1, d => by
  rw [zaF, List.pairwise_append]
  refine ⟨?_, zeQ hc o a b n (d + 1), ?_⟩
  ·unfold zbZ
   refine List.Pairwise.filter _ (List.pairwise_map.2 ((zca hc d).2.1.imp fun {s t} h => ?_))
   simp only [Qj]
   split <;> split <;> omega
  ·intro x hx y hy
   simp only [zbZ, List.mem_filter, List.mem_map] at hx
   obtain ⟨⟨s, hs, rfl⟩, _⟩ := hx
   obtain ⟨day, t, h1, _, h3, rfl, _⟩ := (zdF c o a b y n (d + 1)).1 hy
   have o1 := (zca hc d).1 s hs
   have o2 := (zca hc day).1 t h3
   obtain ⟨q1, q2, q3, q4⟩ := o1
   obtain ⟨u1, u2, u3, u4⟩ := o2
   simp only [Qj]
   split <;> split <;> omega
theorem zds {c : zg} (hc : JC c) (from_ to_ : Int) (p : zO) (x : zr) (h : x ∈ zdK c from_ to_ p) : from_ ≤ x.from_ ∧ p.from_ ≤ x.from_ ∧ x.from_ < x.to_ ∧ x.to_ ≤ to_ ∧ x.to_ ≤ p.to_ ∧ ∃ day s, s ∈ zaM c day ∧ day * 1440 - p.offset + s.from_ ≤ x.from_ ∧ x.to_ ≤ day * 1440 - p.offset + s.to_ := by
 unfold zdK at h
 generalize hga : (if from_ < p.from_ then p.from_ else from_) = a at h
 generalize hgb : (if p.to_ < to_ then p.to_ else to_) = b at h
 have ha : from_ ≤ a ∧ p.from_ ≤ a := by split at hga <;> omega
 have hb : b ≤ to_ ∧ b ≤ p.to_ := by split at hgb <;> omega
 unfold zcS at h
 by_cases hba : b ≤ a
 ·rw [if_pos hba] at h; simp at h
 ·rw [if_neg hba] at h
  obtain ⟨day, s, h1, h2, h3, rfl, h5⟩ := (zdF ..).1 h
  have q : a ≤ (Qj p.offset a b day s).from_ ∧ (Qj p.offset a b day s).to_ ≤ b ∧ day * 1440 - p.offset + s.from_ ≤ (Qj p.offset a b day s).from_ ∧ (Qj p.offset a b day s).to_ ≤ day * 1440 - p.offset + s.to_ := by
   simp only [Qj]
   refine ⟨by split <;> omega, by split <;> omega, by split <;> omega, by split <;> omega⟩
  exact ⟨by omega, by omega, h5, by omega, by omega, day, s, h3, q.2.2.1, q.2.2.2⟩
theorem zld {z : Zc} (hz : zbn z) (m : Int) (h0 : 0 ≤ m) (h1 : m < 3000001) : ∃ k, k ≤ z.changes.length ∧ fr z k ≤ m ∧ m < fr z (k + 1) := by
 have key : ∀ n, n ≤ z.changes.length + 1 → m < fr z n → ∃ k, k < n ∧ fr z k ≤ m ∧ m < fr z (k + 1) := by
  intro n
  induction n with
  | zero => intro _ h; simp only [fr] at h; omega
  | succ n ih =>
   intro hn h
   rcases Int.lt_or_le m (fr z n) with h2 | h2
   ·obtain ⟨k, h3, h4⟩ := ih (by omega) h2
    exact ⟨k, by omega, h4⟩
   ·exact ⟨n, by omega, h2, h⟩
 obtain ⟨k, h2, h3⟩ := key (z.changes.length + 1) (Nat.le_refl _) (by rw [zgd]; exact h1)
 exact ⟨k, by omega, h3⟩
theorem ziD {c : zg} (hc : JC c) (from_ to_ : Int) (hf : 0 ≤ from_ ∧ from_ ≤ 3000001) (ht : 0 ≤ to_ ∧ to_ ≤ 3000001) :
  (∀ x ∈ shL c from_ to_, from_ ≤ x.from_ ∧ x.from_ < x.to_ ∧ x.to_ ≤ to_) ∧ (shL c from_ to_).Pairwise (fun x y => x.from_ ≤ y.from_) ∧
   ∀ m, from_ ≤ m → m < to_ → (Opn c m ↔ ∃ x ∈ shL c from_ to_, x.from_ ≤ m ∧ m < x.to_) := by
 refine ⟨fun x hx => ?_, ?_, fun m h1 h2 => ⟨?_, ?_⟩⟩
 ·obtain ⟨p, hp, hx⟩ := List.mem_flatMap.1 hx
  obtain ⟨q1, q2, q3, q4, _⟩ := zds hc from_ to_ p x hx
  exact ⟨q1, q3, q4⟩
 ·unfold shL
  rw [List.pairwise_flatMap]
  refine ⟨fun p _ => ?_, ?_⟩
  ·unfold zdK zcS
   generalize (if p.to_ < to_ then p.to_ else to_) = b
   generalize (if from_ < p.from_ then p.from_ else from_) = a
   split
   ·exact .nil
   ·exact zeQ hc _ _ _ _ _
  ·refine List.pairwise_map.2 (List.Pairwise.imp_of_mem ?_ List.pairwise_lt_range)
   intro j k hj hk hjk x hx y hy
   obtain ⟨_, _, q3, _, q5, _⟩ := zds hc from_ to_ _ x hx
   obtain ⟨_, u2, _⟩ := zds hc from_ to_ _ y hy
   have hk' := List.mem_range.1 hk
   have := zfw hc.zone (j + 1) (k - (j + 1)) (by omega)
   rw [show j + 1 + (k - (j + 1)) = k by omega] at this
   simp only [prt] at q5 u2
   omega
 ·rintro ⟨day, s, hs, q1, q2⟩
  obtain ⟨k, hk, k1, k2⟩ := zld hc.zone m (by omega) (by omega)
  rw [zfa hc.zone k hk m k1 k2] at q1 q2
  obtain ⟨o1, o2, o3, o4⟩ := (zca hc day).1 s hs
  have hb := zgu hc.zone k
  have hr := zdx hc.zone k (by omega)
  have hr1 := zdx hc.zone (k + 1) (by omega)
  generalize hga : (if from_ < fr c.zone k then fr c.zone k else from_) = a
  generalize hgb : (if fr c.zone (k + 1) < to_ then fr c.zone (k + 1) else to_) = b
  have ha : a ≤ m ∧ 0 ≤ a := by split at hga <;> omega
  have hb2 : m < b ∧ b ≤ 3000001 := by split at hgb <;> omega
  refine ⟨Qj (ofs c.zone k) a b day s, List.mem_flatMap.2 ⟨prt c.zone k, List.mem_map.2 ⟨k, List.mem_range.2 (by omega), rfl⟩, ?_⟩, ?_, ?_⟩
  ·show Qj (ofs c.zone k) a b day s ∈ zcS c (ofs c.zone k) (if from_ < fr c.zone k then fr c.zone k else from_) (if fr c.zone (k + 1) < to_ then fr c.zone (k + 1) else to_)
   rw [hga, hgb, zcS, if_neg (by omega)]
   refine (zdF ..).2 ⟨day, s, by omega, by omega, hs, rfl, ?_⟩
   simp only [Qj]
   split <;> split <;> omega
  ·simp only [Qj]
   split <;> omega
  ·simp only [Qj]
   split <;> omega
 ·rintro ⟨x, hx, q1, q2⟩
  obtain ⟨p, hp, hx⟩ := List.mem_flatMap.1 hx
  obtain ⟨k, hk, rfl⟩ := List.mem_map.1 hp
  have hk' := List.mem_range.1 hk
  obtain ⟨p1, p2, p3, p4, p5, day, s, hs, p6, p7⟩ := zds hc from_ to_ _ x hx
  simp only [prt] at p2 p5 p6 p7
  refine ⟨day, s, hs, ?_, ?_⟩
  ·rw [zfa hc.zone k (by omega) m (by omega) (by omega)]; omega
  ·rw [zfa hc.zone k (by omega) m (by omega) (by omega)]; omega
def Js : zr → List zr → List zr
 | last, [] => [last]
 | last, x :: l => if x.from_ ≤ last.to_ then Js ⟨last.from_, if last.to_ < x.to_ then x.to_ else last.to_⟩ l else last :: Js x l
def zes : List zr → List zr
 | [] => []
 | x :: l => Js x l
structure zjh (O : Int → Prop) (from_ to_ : Int) (l : List zr) : Prop where
 each : ∀ x ∈ l, from_ ≤ x.from_ ∧ x.from_ < x.to_ ∧ x.to_ ≤ to_
 apart : l.Pairwise fun x y => x.to_ < y.from_
 all : ∀ m, from_ ≤ m → m < to_ → (O m ↔ ∃ x ∈ l, x.from_ ≤ m ∧ m < x.to_)
theorem zdr (from_ to_ : Int) : ∀ (l : List zr) (last : zr), (∀ x ∈ last :: l, from_ ≤ x.from_ ∧ x.from_ < x.to_ ∧ x.to_ ≤ to_) → (last :: l).Pairwise (fun x y => x.from_ ≤ y.from_) →
  (∀ x ∈ Js last l, last.from_ ≤ x.from_ ∧ x.from_ < x.to_ ∧ x.to_ ≤ to_) ∧ (Js last l).Pairwise (fun x y => x.to_ < y.from_) ∧
   (∀ m, (∃ x ∈ last :: l, x.from_ ≤ m ∧ m < x.to_) ↔ ∃ x ∈ Js last l, x.from_ ≤ m ∧ m < x.to_)
 | [], last, h, _ => by
  refine ⟨fun x hx => ?_, by simp [Js], fun m => by simp [Js]⟩
  simp only [Js, List.mem_singleton] at hx
  subst hx
  have := h x (by simp)
  omega
 | x :: l, last, h, hs => by
  have h1 := h last (by simp)
  have h2 := h x (by simp)
  obtain ⟨hs1, hs2⟩ := List.pairwise_cons.1 hs
  obtain ⟨hs3, hs4⟩ := List.pairwise_cons.1 hs2
  have h3 := hs1 x (by simp)
  rw [Js]
  split
  ·rename_i hle
   obtain ⟨q1, q2, q3⟩ := zdr from_ to_ l ⟨last.from_, if last.to_ < x.to_ then x.to_ else last.to_⟩ (fun y hy => by
    rcases List.mem_cons.1 hy with rfl | hy
    ·simp only
     split <;> omega
    ·exact h y (by simp [hy])) (List.pairwise_cons.2 ⟨fun y hy => by
     have := hs1 y (by simp [hy])
     exact this, hs4⟩)
   refine ⟨q1, q2, fun m => ?_⟩
   rw [← q3 m]
   constructor
   ·rintro ⟨y, hy, u1, u2⟩
    rcases List.mem_cons.1 hy with rfl | hy
    ·exact ⟨_, List.mem_cons_self, u1, by simp only; split <;> omega⟩
    ·rcases List.mem_cons.1 hy with rfl | hy
     ·exact ⟨_, List.mem_cons_self, by simp only; omega, by simp only; split <;> omega⟩
     ·exact ⟨y, List.mem_cons_of_mem _ hy, u1, u2⟩
   ·rintro ⟨y, hy, u1, u2⟩
    rcases List.mem_cons.1 hy with rfl | hy
    ·simp only at u1 u2
     by_cases hm : m < last.to_
     ·exact ⟨last, by simp, u1, hm⟩
     ·refine ⟨x, by simp, by omega, ?_⟩
      split at u2 <;> omega
    ·exact ⟨y, by simp [hy], u1, u2⟩
  ·rename_i hle
   obtain ⟨q1, q2, q3⟩ := zdr from_ to_ l x (fun y hy => h y (by simp at hy ⊢; exact .inr hy)) hs2
   refine ⟨fun y hy => ?_, List.pairwise_cons.2 ⟨fun y hy => ?_, q2⟩, fun m => ?_⟩
   ·rcases List.mem_cons.1 hy with rfl | hy
    ·omega
    ·have := q1 y hy; omega
   ·have := q1 y hy; omega
   ·constructor
    ·rintro ⟨y, hy, u1, u2⟩
     rcases List.mem_cons.1 hy with rfl | hy
     ·exact ⟨_, List.mem_cons_self, u1, u2⟩
     ·obtain ⟨z, hz, u3⟩ := (q3 m).1 ⟨y, hy, u1, u2⟩
      exact ⟨z, List.mem_cons_of_mem _ hz, u3⟩
    ·rintro ⟨y, hy, u1, u2⟩
     rcases List.mem_cons.1 hy with rfl | hy
     ·exact ⟨_, List.mem_cons_self, u1, u2⟩
     ·obtain ⟨z, hz, u3⟩ := (q3 m).2 ⟨y, hy, u1, u2⟩
      exact ⟨z, List.mem_cons_of_mem _ hz, u3⟩
def zdI (c : zg) (from_ to_ : Int) : List zr := zes (shL c from_ to_)
theorem zew {c : zg} (hc : JC c) (from_ to_ : Int) (hf : 0 ≤ from_ ∧ from_ ≤ 3000001) (ht : 0 ≤ to_ ∧ to_ ≤ 3000001) : zjh (Opn c) from_ to_ (zdI c from_ to_) := by
 obtain ⟨h1, h2, h3⟩ := ziD hc from_ to_ hf ht
 unfold zdI
 cases hl : shL c from_ to_ with
 | nil =>
  rw [hl] at h3
  exact ⟨fun x hx => by simp [zes] at hx, .nil, fun m q1 q2 => by rw [h3 m q1 q2]; simp [zes]⟩
 | cons x l =>
  rw [hl] at h1 h2 h3
  obtain ⟨q1, q2, q3⟩ := zdr from_ to_ l x h1 h2
  have := h1 x (by simp)
  exact ⟨fun y hy => by have := q1 y hy; omega, q2, fun m u1 u2 => by rw [h3 m u1 u2]; exact q3 m⟩
theorem zfg {c : zg} (hc : JC c) (from_ to_ : Int) (hf : 0 ≤ from_ ∧ from_ ≤ 3000001) (ht : 0 ≤ to_ ∧ to_ ≤ 3000001) {S : Type} (y : zr → S → Option (Bool × S)) (s : S) :
  qt y s c from_ to_ = (qb y (zdI c from_ to_) s).map (·.2) := by
 unfold qt jO
 simp only [Option.bind_some]
 rw [zjf hc from_ to_ hf ht]
 obtain ⟨h1, h2, h3⟩ := ziD hc from_ to_ hf ht
 unfold zdI
 have key : ∀ (l : List zr) (last : zr) (s : S), 0 ≤ last.from_ → (∀ x ∈ l, 0 ≤ x.from_) →
   (Option.bind ((qb (QD (fun (x43 : zr) (s35 : (zr × S)) => Option.bind (α := Lp _ _) (Option.bind (α := Lp _ _) (Option.bind (α := Lp _ _) (if (decide (s35.1.from_ < 0)) = true then some (.fin (x43, s35.2)) else Option.bind (α := Lp _ _) (if (decide (x43.from_ ≤ s35.1.to_)) = true then some (.fin ((⟨s35.1.from_, (if s35.1.to_ < x43.to_ then x43.to_ else s35.1.to_)⟩ : zr), s35.2)) else Option.bind (y s35.1 s35.2) fun x110 => if (!x110.1) = true then some (.rt ((s35.1, x110.2), some 0)) else some (.fin (x43, x110.2))) fun o96 => o96.andThen (fun y => some (.rt y)) fun s97 => some (.fin (s97.1, s97.2))) fun o81 => o81.andThen (fun y => some (.rt y)) fun s82 => some (.fin (s82.1, s82.2))) fun o73 => o73.andThen (fun y => some (.rt y)) fun s74 => some (.fin (s74.1, s74.2))) fun o65 => o65.andThen (fun y => some y) fun s66 => some ((s66.1, s66.2), none))) l ((last, s), none)).map (·.2)) fun z33 =>
    if z33.2 = some 0 then (some z33.1.2) else Option.bind (if (decide ((0 : Int) ≤ z33.1.1.from_)) = true then Option.bind (y z33.1.1 z33.1.2) fun x148 => some x148.2 else some z33.1.2) fun s140 => some s140) = (qb y (Js last l) s).map (·.2) := by
  intro l
  induction l with
  | nil =>
   intro last s hlast _
   simp only [qb, Js, Option.map_some, Option.bind_some, reduceCtorEq, if_false, hlast, decide_true, if_true]
   cases y last s with
   | none => rfl
   | some r =>
    obtain ⟨r1, r2⟩ := r
    cases r1 <;> simp
  | cons x l ih =>
   intro last s hlast hx
   have hn : ¬ last.from_ < 0 := by omega
   have hx0 := hx x (by simp)
   have hl0 : ∀ x ∈ l, 0 ≤ x.from_ := fun z hz => hx z (by simp [hz])
   rw [qb, Js]
   by_cases hle : x.from_ ≤ last.to_
   ·rw [if_pos hle]
    rw [← ih ⟨last.from_, if last.to_ < x.to_ then x.to_ else last.to_⟩ s hlast hl0]
    simp only [QD, Option.isNone_none, if_true, hn, decide_false, Bool.false_eq_true, if_false, hle, decide_true, Option.bind_some, Lp.andThen_fin]
   ·rw [if_neg hle]
    conv => rhs; rw [qb]
    simp only [QD, Option.isNone_none, if_true, hn, decide_false, Bool.false_eq_true, if_false, hle, Option.bind_some]
    cases y last s with
    | none => rfl
    | some r =>
     obtain ⟨r1, r2⟩ := r
     cases r1 with
     | true =>
      simp only [Option.bind_some, Bool.not_true, Bool.false_eq_true, if_false, if_true, Lp.andThen_fin, Option.isNone_none]
      exact ih x r2 hx0 hl0
     | false => simp [Lp.andThen]
 cases hl : shL c from_ to_ with
 | nil => simp [qb, zes]
 | cons x l =>
  rw [hl] at h1
  have hx0 := h1 x (by simp)
  have := key l x s (by omega) fun z hz => by have := h1 z (by simp [hz]); omega
  rw [qb, zes, ← this]
  simp [QD, Lp.andThen]
end Go.Proofs.YtiblagcmjobknaaGreatDoor.M
namespace Go.Proofs.YtiblagcmjobknaaGreatDoor.M
open Go Go.Pu
set_option linter.unusedSimpArgs false
set_option linter.unusedVariables false
theorem zeE {a b : UInt8} : a < b ↔ a.toNat < b.toNat := UInt8.lt_iff_toNat_lt
theorem zgy : ∀ a b : List UInt8, Go.Lib.compareBytes a b = 0 ↔ a = b
 | [], [] => by simp [Go.Lib.compareBytes]
 | [], _ :: _ => by simp [Go.Lib.compareBytes]
 | _ :: _, [] => by simp [Go.Lib.compareBytes]
 | a :: a1s, b :: bs => by
  rw [Go.Lib.compareBytes]
  by_cases h1 : a < b
  ·rw [if_pos h1]
   constructor
   ·intro h; cases h
   ·intro h; cases h; rw [zeE] at h1; omega
  ·rw [if_neg h1]
   by_cases h2 : b < a
   ·rw [if_pos h2]
    constructor
    ·intro h; cases h
    ·intro h; cases h; rw [zeE] at h2; omega
   ·rw [if_neg h2, zgy a1s bs]
    rw [zeE] at h1 h2
    have : a = b := UInt8.toNat_inj.1 (by omega)
    simp [this]
theorem zgs : ∀ a b : List UInt8, Go.Lib.compareBytes a b = -Go.Lib.compareBytes b a
 | [], [] => by simp [Go.Lib.compareBytes]
 | [], _ :: _ => by simp [Go.Lib.compareBytes]
 | _ :: _, [] => by simp [Go.Lib.compareBytes]
 | a :: a1s, b :: bs => by
  rw [Go.Lib.compareBytes, Go.Lib.compareBytes, zgs a1s bs]
  simp only [zeE]
  split <;> split <;> omega
theorem zfE : ∀ a b c : List UInt8, Go.Lib.compareBytes a b < 0 → Go.Lib.compareBytes b c < 0 → Go.Lib.compareBytes a c < 0
 | [], b, [], h1, h2 => by
  cases b with
  | nil => exact h1
  | cons b bs => simp [Go.Lib.compareBytes] at h2
 | [], _, _ :: _, _, _ => by simp [Go.Lib.compareBytes]
 | _ :: _, [], _, h1, _ => by simp [Go.Lib.compareBytes] at h1
 | _ :: _, _ :: _, [], _, h2 => by simp [Go.Lib.compareBytes] at h2
 | a :: a1s, b :: bs, c :: cs, h1, h2 => by
  rw [Go.Lib.compareBytes] at h1 h2 ⊢
  simp only [zeE] at h1 h2 ⊢
  by_cases h3 : a.toNat < b.toNat
  ·by_cases h4 : b.toNat < c.toNat
   ·rw [if_pos (by omega)]; decide
   ·rw [if_neg h4] at h2
    by_cases h5 : c.toNat < b.toNat
    ·rw [if_pos h5] at h2; omega
    ·rw [if_pos (by omega)]; decide
  ·rw [if_neg h3] at h1
   by_cases h4 : b.toNat < a.toNat
   ·rw [if_pos h4] at h1; omega
   ·rw [if_neg h4] at h1
    by_cases h5 : b.toNat < c.toNat
    ·rw [if_pos (by omega)]; decide
    ·rw [if_neg h5] at h2
     by_cases h6 : c.toNat < b.toNat
     ·rw [if_pos h6] at h2; omega
     ·rw [if_neg h6] at h2
      rw [if_neg (by omega), if_neg (by omega)]
      exact zfE a1s bs cs h1 h2
theorem zhz : ∀ a b : List UInt8, Op.bytesLess a b = decide (Go.Lib.compareBytes a b < 0)
 | [], [] => by simp [Go.Lib.compareBytes, Op.bytesLess]
 | [], _ :: _ => by simp [Go.Lib.compareBytes, Op.bytesLess]
 | _ :: _, [] => by simp [Go.Lib.compareBytes, Op.bytesLess]
 | a :: a1s, b :: bs => by
  rw [Go.Lib.compareBytes, Op.bytesLess, zhz a1s bs]
  simp only [zeE]
  by_cases h1 : a.toNat < b.toNat
  ·simp [h1]
  ·by_cases h2 : b.toNat < a.toNat
   ·have : a ≠ b := fun h => by subst h; omega
    simp [h1, h2, this]
   ·have : a = b := UInt8.toNat_inj.1 (by omega)
    simp [h1, h2, this]
def cmpS (a b : ByteArray) : Int := Go.Lib.compareBytes a.data.toList b.data.toList
theorem zjF (a b : ByteArray) : cmpS a b = 0 ↔ a = b := by
 unfold cmpS
 rw [zgy]
 constructor
 ·intro h
  apply ByteArray.ext
  rw [← Array.toList_inj]
  exact h
 ·rintro rfl; rfl
theorem zjW (a b : ByteArray) : cmpS a b = -cmpS b a := zgs _ _
theorem zjb {a b c : ByteArray} (h1 : cmpS a b < 0) (h2 : cmpS b c < 0) : cmpS a c < 0 := zfE _ _ _ h1 h2
theorem zke (a b : ByteArray) : zeH a b = decide (cmpS a b < 0) := by
 unfold zeH cmpS
 rw [ByteArray.toList_eq, ByteArray.toList_eq, zhz]
theorem zjT (a b : ByteArray) : ja a b = decide (a = b) := by
 unfold ja
 rw [ByteArray.toList_eq, ByteArray.toList_eq, Bool.eq_iff_iff, beq_iff_eq, decide_eq_true_eq]
 constructor
 ·intro h
  apply ByteArray.ext
  rw [← Array.toList_inj]
  exact h
 ·rintro rfl; rfl
end Go.Proofs.YtiblagcmjobknaaGreatDoor.M
namespace Go.Proofs.YtiblagcmjobknaaGreatDoor.M
open Go Go.Pu
set_option linter.unusedSimpArgs false
set_option linter.unusedVariables false
theorem zkR (s : ByteArray) (k : Nat) : s[k]? = s.data.toList[k]? := by
 by_cases h : k < s.size
 ·rw [getElem?_pos s k h]
  have h2 : k < s.data.toList.length := h
  rw [List.getElem?_eq_getElem h2]
  rfl
 ·rw [getElem?_neg s k h, List.getElem?_eq_none (by simpa using h)]
theorem zkF (s : ByteArray) (k : Nat) : idxS s (k : Int) = s.data.toList[k]? := by
 unfold idxS
 rw [if_pos (by omega), Int.toNat_natCast, zkR]
theorem zjV (x : ByteArray) : ja x (⟨#[]⟩ : ByteArray) = (x.data.toList == []) := by
 unfold ja
 rw [ByteArray.toList_eq, ByteArray.toList_eq]
def Jg (l : List zd) : Prop := l.length ≤ 40 ∧ ∀ (j : Nat) (p : zd), l[j]? = some p → (1 ≤ p.no ∧ p.no ≤ 40) ∧ (0 ≤ p.capacity ∧ p.capacity ≤ 100) ∧ (0 ≤ p.calendar ∧ p.calendar ≤ 19) ∧ ∀ (i : Nat) (q : zd), i < j → l[i]? = some q → q.no < p.no
end Go.Proofs.YtiblagcmjobknaaGreatDoor.M
namespace Go.Proofs.YtiblagcmjobknaaGreatDoor.M
open Go Go.Pu
set_option linter.unusedSimpArgs false
set_option linter.unusedVariables false
theorem zjn {R : Type} {b : Nat → Unit → Option (Ctl Unit R)} (n : Nat) (good : Nat → Prop) (Q : R → Prop) (h : ∀ k, k < n → (good k ∧ b k () = some (.nx ())) ∨ (¬ good k ∧ ∃ r, Q r ∧ b k () = some (.rt r))) :
  ((∀ k, k < n → good k) ∧ zE b n 0 () = some (.fin ())) ∨ ((¬ ∀ k, k < n → good k) ∧ ∃ r, Q r ∧ zE b n 0 () = some (.rt r)) := by
 obtain ⟨o, h1, h2⟩ := JO (body := b) n (fun k _ => ∀ j, j < k → good j) (fun o => (o = .fin () ∧ ∀ k, k < n → good k) ∨ ∃ r, o = .rt r ∧ Q r ∧ ¬ ∀ k, k < n → good k) (s := ()) (fun j h => absurd h (Nat.not_lt_zero j))
  (by
   rintro k _ hk hI
   rcases h k hk with ⟨g, e⟩ | ⟨g, r, q, e⟩
   ·refine ⟨_, e, fun j hj => ?_⟩
    rcases Nat.lt_or_eq_of_le (Nat.le_of_lt_succ hj) with h1 | rfl
    ·exact hI j h1
    ·exact g
   ·exact ⟨_, e, .inr ⟨r, rfl, q, fun h => g (h k hk)⟩⟩)
  (fun _ h => .inl ⟨rfl, h⟩)
 rcases h2 with ⟨rfl, h2⟩ | ⟨r, rfl, q, h2⟩
 ·exact .inl ⟨h2, h1⟩
 ·exact .inr ⟨h2, r, q, h1⟩
noncomputable def nmOk (s : ByteArray) : Bool := (jX s).getD false && decide (s.size ≤ 20)
theorem zlB (s : ByteArray) (hs : s.size ≤ 9223372036854775807) : jX s = some (nmOk s) := by
 suffices h : ∃ b, jX s = some b ∧ (b = true → s.size ≤ 20) by
  obtain ⟨b, e, h⟩ := h
  unfold nmOk
  rw [e]
  cases b with
  | false => rfl
  | true => rw [decide_eq_true (h rfl)]; rfl
 unfold jX
 suffices h : ∀ (body : Int → Option (Ctl Int Bool)), (∀ s8, body s8 = if (decide (s8 < (s.size : Int))) = true then Option.bind (idxS s s8) fun x18 => if (((!((decide ((97 : Int) ≤ (x18.toNat : Int))) && (decide ((x18.toNat : Int) ≤ 122)))) && (!((decide ((48 : Int) ≤ (x18.toNat : Int))) && (decide ((x18.toNat : Int) ≤ 57))))) && ((x18.toNat : Int) != 95)) = true then some (.rt false) else some (.nx (w64 (s8 + 1))) else some (.bk s8)) → ∃ o, QT body 0 = some o ∧ (o = .rt false ∨ ∃ t, o = .fin t) by
  obtain ⟨o, e, h⟩ := h _ fun _ => rfl
  rw [e]
  rcases h with rfl | ⟨t, rfl⟩
  ·exact ⟨false, rfl, fun h => by cases h⟩
  ·exact ⟨_, rfl, fun h => by simp only [Bool.and_eq_true, decide_eq_true_eq] at h; omega⟩
 intro body hb
 refine zar (fun i => ∃ k : Nat, i = (k : Int) ∧ k ≤ s.size) (fun i => s.size - i.toNat) (fun o => o = .rt false ∨ ∃ t, o = .fin t) ⟨0, rfl, Nat.zero_le _⟩ ?_
 rintro _ ⟨k, rfl, hk⟩
 rw [hb]
 by_cases hlt : k < s.size
 ·have hl : s.data.toList.length = s.size := rfl
  have hb : s.data.toList[k]? = some (s.data.toList[k]'(by omega)) := List.getElem?_eq_getElem (by omega)
  rw [if_pos (decide_eq_true (by omega)), zkF, hb, Option.bind_some]
  split
  ·exact ⟨_, rfl, .inl rfl⟩
  ·exact ⟨_, rfl, ⟨k + 1, by rw [Zi (by omega) (by omega)]; omega, hlt⟩, by rw [Zi (by omega) (by omega)]; omega⟩
 ·rw [if_neg (by simp; omega)]
  exact ⟨_, rfl, .inr ⟨_, rfl⟩⟩
theorem zlq {s : ByteArray} (h : nmOk s = true) : s.size ≤ 20 := by
 unfold nmOk at h
 simp only [Bool.and_eq_true, decide_eq_true_eq] at h
 exact h.2
structure SkOK (l : List zi) : Prop where
 len : l.length ≤ 12
 name : ∀ s ∈ l, nmOk s.name = true
 rank : ∀ s ∈ l, 1 ≤ s.rank ∧ s.rank ≤ 9
 rise : l.Pairwise fun a b => cmpS a.name b.name < 0
theorem SkOK.size {l : List zi} (h : SkOK l) {s : zi} (hs : s ∈ l) : s.name.size ≤ 9223372036854775807 := by
 have := zlq (h.name s hs)
 omega
theorem zdw (l : List zi) (hs : ∀ k ∈ l, k.name.size ≤ 9223372036854775807) : ∃ r, qO l = some r ∧ (r = 0 ↔ SkOK l) := by
 unfold qO
 by_cases h : (12 : Int) < (l.length : Int)
 ·simp only [decide_eq_true h, if_true]
  exact ⟨4, rfl, fun h => absurd h (by decide), fun h2 => by have := h2.len; omega⟩
 simp only [decide_eq_false h, Bool.false_eq_true, if_false]
 rcases zjn (R := Int) (b := fun k7 _ => Option.bind (idx l (k7 : Int)) fun x27 => Option.bind (jX x27.name) fun x41 => if (!x41) = true then some (.rt 3) else Option.bind (if (decide ((0 : Int) < (k7 : Int))) = true then (Option.bind (idx l (w64 ((k7 : Int) - 1))) fun x46 => some (zeH x27.name x46.name || ja x27.name x46.name)) else (some false)) fun s44 => if s44 = true then some (.rt 5) else if (!(zm x27.rank 1 9)) = true then some (.rt 2) else some (.nx ())) l.length
  (fun k => ∀ s, l[k]? = some s → nmOk s.name = true ∧ (1 ≤ s.rank ∧ s.rank ≤ 9) ∧ ∀ q, 0 < k → l[k - 1]? = some q → cmpS q.name s.name < 0) (fun r => r ≠ 0)
  (by
   intro k hk
   have hx : l[k]? = some l[k] := List.getElem?_eq_getElem hk
   have hsz := hs _ (List.getElem_mem hk)
   generalize l[k] = s at hx hsz
   simp only [zP, hx, Option.bind_some, zlB s.name hsz, Option.some.injEq, forall_eq']
   change (_ ∧ (if (!(nmOk s.name)) = true then _ else _) = _) ∨ (_ ∧ ∃ r, r ≠ 0 ∧ (if (!(nmOk s.name)) = true then _ else _) = _)
   by_cases h1 : nmOk s.name = true
   rotate_left
   ·rw [Bool.not_eq_true] at h1
    rw [h1]
    exact .inr ⟨fun h => by simp at h, 3, by decide, rfl⟩
   rw [h1]
   simp only [Bool.not_true, Bool.false_eq_true, if_false, true_and]
   obtain ⟨b, hb, hb2⟩ : ∃ b : Bool, (if (decide ((0 : Int) < (k : Int))) = true then (Option.bind (idx l (w64 ((k : Int) - 1))) fun x46 => some (zeH s.name x46.name || ja s.name x46.name)) else (some false)) = some b ∧ (b = false ↔ ∀ q, 0 < k → l[k - 1]? = some q → cmpS q.name s.name < 0) := by
    by_cases h0 : (0 : Int) < (k : Int)
    ·have hw : w64 ((k : Int) - 1) = ((k - 1 : Nat) : Int) := by rw [Zi (by omega) (by omega)]; omega
     have hy := List.getElem?_eq_getElem (l := l) (i := k - 1) (by omega)
     rw [if_pos (by simpa using h0), hw, zP, hy]
     refine ⟨_, rfl, ?_⟩
     generalize l[k - 1] = u
     rw [zke, zjT, Bool.or_eq_false_iff, decide_eq_false_iff_not, decide_eq_false_iff_not, ← zjF, zjW s.name]
     constructor
     ·rintro h q _ ⟨⟩; omega
     ·intro h; have := h u (by omega) rfl; omega
    ·rw [if_neg (by simpa using h0)]
     exact ⟨_, rfl, fun _ q h => absurd h (by omega), fun _ => rfl⟩
   rw [hb, ← hb2]
   cases b with
   | true => exact .inr ⟨fun h => by simp at h, 5, by decide, rfl⟩
   | false =>
    simp only [Option.bind_some, Bool.false_eq_true, if_false, and_true]
    by_cases h2 : 1 ≤ s.rank ∧ s.rank ≤ 9
    ·exact .inl ⟨h2, by simp [zm, h2.1, h2.2]⟩
    ·refine .inr ⟨h2, 2, by decide, ?_⟩
     rw [if_pos]
     simp only [zm, Bool.not_eq_true', Bool.and_eq_false_iff, decide_eq_false_iff_not]
     omega) with ⟨hg, e⟩ | ⟨hg, r, hr, e⟩
 ·rw [e]
  refine ⟨0, rfl, fun _ => ⟨by omega, fun s h => ?_, fun s h => ?_, ?_⟩, fun _ => rfl⟩
  ·obtain ⟨j, hj⟩ := List.mem_iff_getElem?.1 h
   exact (hg j (List.getElem?_eq_some_iff.1 hj).1 s hj).1
  ·obtain ⟨j, hj⟩ := List.mem_iff_getElem?.1 h
   exact (hg j (List.getElem?_eq_some_iff.1 hj).1 s hj).2.1
  ·refine zai (R := fun a b : zi => cmpS a.name b.name < 0) (fun a b c h1 h2 => zjb h1 h2) l fun j p s hp hs => ?_
   exact (hg (j + 1) (List.getElem?_eq_some_iff.1 hs).1 s hs).2.2 p (by omega) hp
 ·rw [e]
  refine ⟨r, rfl, fun h => absurd h hr, fun h2 => absurd (fun k hk s hx => ⟨h2.name s (List.mem_of_getElem? hx), h2.rank s (List.mem_of_getElem? hx), fun q h0 hq => ?_⟩) hg⟩
  obtain ⟨a1, rfl⟩ := List.getElem?_eq_some_iff.1 hq
  obtain ⟨b1, rfl⟩ := List.getElem?_eq_some_iff.1 hx
  exact List.pairwise_iff_getElem.1 h2.rise (k - 1) k a1 b1 (by omega)
structure WkOK (w : za) : Prop where
 tick : 1 ≤ w.ticket ∧ w.ticket ≤ 400
 wei : 1 ≤ w.weight ∧ w.weight ≤ 20
 urg : 0 ≤ w.urgency ∧ w.urgency ≤ 9
 since : 0 ≤ w.since ∧ w.since ≤ 3000000
 former : 0 ≤ w.former ∧ w.former ≤ 40
 needs : SkOK w.needs
theorem zgk (w : za) (hs : ∀ k ∈ w.needs, k.name.size ≤ 9223372036854775807) : ∃ r, jn [w] = some r ∧ (r = 0 ↔ WkOK w) := by
 obtain ⟨r, h1, h2⟩ := zdw w.needs hs
 unfold jn
 have e1 : decide ((200 : Int) < (([w] : List za).length : Int)) = false := decide_eq_false (by simp)
 have hi : idx [w] ((0 : Nat) : Int) = some w := rfl
 have hsl : zaH [w] none (some ((0 : Nat) : Int)) = some [] := by simp [zaH, zdd]
 have hb : ZH [] (fun y => jt y w) = some false := rfl
 rw [e1]
 simp only [Bool.false_eq_true, if_false, List.length_singleton, zE, hi, Option.bind_some, hsl, hb, h1]
 by_cases b1 : 1 ≤ w.ticket ∧ w.ticket ≤ 400
 rotate_left
 ·have : (!(zm w.ticket 1 400)) = true := by
   simp only [zm, Bool.not_eq_true', Bool.and_eq_false_iff, decide_eq_false_iff_not]; omega
  simp only [this, if_true]
  exact ⟨2, rfl, fun h => absurd h (by decide), fun h => absurd h.tick b1⟩
 have e2 : (!(zm w.ticket 1 400)) = false := by simp [zm, b1.1, b1.2]
 by_cases b2 : ((1 ≤ w.weight ∧ w.weight ≤ 20) ∧ (0 ≤ w.urgency ∧ w.urgency ≤ 9)) ∧ (0 ≤ w.since ∧ w.since ≤ 3000000) ∧ (0 ≤ w.former ∧ w.former ≤ 40)
 rotate_left
 ·have : ((((!(zm w.weight 1 20)) || (!(zm w.urgency 0 9))) || (!(zm w.since 0 3000000))) || (!(zm w.former 0 40))) = true := by
   rw [← Bool.not_eq_false]
   intro h
   simp only [zm, Bool.or_eq_false_iff, Bool.not_eq_false', Bool.and_eq_true, decide_eq_true_eq] at h
   exact b2 ⟨⟨h.1.1.1, h.1.1.2⟩, h.1.2, h.2⟩
  simp only [e2, this, if_true, Bool.false_eq_true, if_false]
  exact ⟨2, rfl, fun h => absurd h (by decide), fun h => absurd ⟨⟨h.wei, h.urg⟩, h.since, h.former⟩ b2⟩
 have e3 : ((((!(zm w.weight 1 20)) || (!(zm w.urgency 0 9))) || (!(zm w.since 0 3000000))) || (!(zm w.former 0 40))) = false := by simp [zm, b2.1.1.1, b2.1.1.2, b2.1.2.1, b2.1.2.2, b2.2.1.1, b2.2.1.2, b2.2.2.1, b2.2.2.2]
 simp only [e2, e3, Bool.false_eq_true, if_false]
 by_cases h0 : r = 0
 ·subst h0
  exact ⟨0, rfl, fun _ => ⟨b1, b2.1.1, b2.1.2, b2.2.1, b2.2.2, h2.1 rfl⟩, fun _ => rfl⟩
 ·have : (r != 0) = true := by simpa using h0
  simp only [this, if_true]
  exact ⟨r, rfl, fun h => absurd h h0, fun h => absurd (h2.2 h.needs) h0⟩
def StOK (steps : List zk) : Prop := steps.length ≤ 8 ∧ ∀ s ∈ steps, (1 ≤ s.after ∧ s.after ≤ 3000000) ∧ (0 ≤ s.lower ∧ s.lower ≤ 9)
theorem zkn (l : List zk) : ∃ r, qD l = some r ∧ (r = 0 → StOK l) := by
 unfold qD
 by_cases h : (8 : Int) < (l.length : Int)
 ·simp only [decide_eq_true h, if_true]
  exact ⟨4, rfl, fun h => absurd h (by decide)⟩
 simp only [decide_eq_false h, Bool.false_eq_true, if_false]
 obtain ⟨o, e, hq⟩ := JO (R := Int) (body := fun k7 (_ : Unit) => Option.bind (idx l (k7 : Int)) fun x27 => if ((!(zm x27.after 1 3000000)) || (!(zm x27.lower 0 9))) = true then some (.rt 2) else Option.bind (if (decide ((0 : Int) < (k7 : Int))) = true then (Option.bind (idx l (w64 ((k7 : Int) - 1))) fun x48 => some (decide (x27.after ≤ x48.after))) else (some false)) fun s46 => if s46 = true then some (.rt 5) else some (.nx ())) l.length
  (fun k _ => ∀ j s, j < k → l[j]? = some s → (1 ≤ s.after ∧ s.after ≤ 3000000) ∧ (0 ≤ s.lower ∧ s.lower ≤ 9)) (fun o => (∃ r, o = .rt r ∧ r ≠ 0) ∨ (o = .fin () ∧ ∀ s ∈ l, (1 ≤ s.after ∧ s.after ≤ 3000000) ∧ (0 ≤ s.lower ∧ s.lower ≤ 9))) (s := ()) (fun j s h => absurd h (Nat.not_lt_zero j))
  (by
   rintro k _ hk hI
   have hx : l[k]? = some l[k] := List.getElem?_eq_getElem hk
   generalize l[k] = s at hx
   simp only [zP, hx, Option.bind_some]
   by_cases h1 : (1 ≤ s.after ∧ s.after ≤ 3000000) ∧ (0 ≤ s.lower ∧ s.lower ≤ 9)
   rotate_left
   ·rw [if_pos (by
     rw [← Bool.not_eq_false]
     intro h
     simp only [zm, Bool.or_eq_false_iff, Bool.not_eq_false', Bool.and_eq_true, decide_eq_true_eq] at h
     exact h1 h)]
    exact ⟨_, rfl, .inl ⟨2, rfl, by decide⟩⟩
   rw [if_neg (by simp [zm, h1.1.1, h1.1.2, h1.2.1, h1.2.2])]
   obtain ⟨b, hb⟩ : ∃ b : Bool, (if (decide ((0 : Int) < (k : Int))) = true then (Option.bind (idx l (w64 ((k : Int) - 1))) fun x48 => some (decide (s.after ≤ x48.after))) else (some false)) = some b := by
    by_cases h0 : (0 : Int) < (k : Int)
    ·have hw : w64 ((k : Int) - 1) = ((k - 1 : Nat) : Int) := by rw [Zi (by omega) (by omega)]; omega
     rw [if_pos (by simpa using h0), hw, zP, List.getElem?_eq_getElem (by omega)]
     exact ⟨_, rfl⟩
    ·rw [if_neg (by simpa using h0)]
     exact ⟨_, rfl⟩
   rw [hb]
   cases b with
   | true => exact ⟨_, rfl, .inl ⟨5, rfl, by decide⟩⟩
   | false =>
    refine ⟨_, rfl, fun j u hj hu => ?_⟩
    rcases Nat.lt_or_eq_of_le (Nat.le_of_lt_succ hj) with h3 | rfl
    ·exact hI j u h3 hu
    ·rw [hx] at hu
     cases hu
     exact h1)
  (fun _ h => .inr ⟨rfl, fun s hs => by
   obtain ⟨j, hj⟩ := List.mem_iff_getElem?.1 hs
   exact h j s (List.getElem?_eq_some_iff.1 hj).1 hj⟩)
 rw [e]
 rcases hq with ⟨r, rfl, hr⟩ | ⟨rfl, hq⟩
 ·exact ⟨r, rfl, fun h => absurd h hr⟩
 ·exact ⟨0, rfl, fun _ => ⟨by omega, hq⟩⟩
def zct (steps : List zk) (d : Int) : Nat → Int
 | 0 => -1
 | k + 1 => match steps[k]? with
  | some s => if s.after ≤ d then (k : Int) else zct steps d k
  | none => zct steps d k
def lowS (n : Int) (s : zi) : Option zi := if 1 ≤ w64 (s.rank - n) then some ⟨s.name, w64 (s.rank - n)⟩ else none
def qi (w : za) (steps : List zk) (m : Int) : List zi := match idx steps (zct steps (m - w.since) steps.length) with
 | none => w.needs
 | some s => if s.any = true then [] else w.needs.filterMap (lowS s.lower)
theorem zhl (steps : List zk) (d : Int) : ∀ k, k ≤ steps.length → zct steps d k = -1 ∨ ∃ j : Nat, j < k ∧ zct steps d k = (j : Int)
 | 0, _ => .inl rfl
 | k + 1, h => by
  rw [zct, List.getElem?_eq_getElem (by omega)]
  dsimp only
  split
  ·exact .inr ⟨k, Nat.lt_succ_self k, rfl⟩
  ·exact (zhl steps d k (by omega)).imp id fun ⟨j, h1, h2⟩ => ⟨j, by omega, h2⟩
theorem zeT (w : za) (steps : List zk) (m : Int) (hn : w.needs.length ≤ 12) (hd : -9000000 ≤ m - w.since ∧ m - w.since ≤ 9000000) : QM w steps m = some (qi w steps m) := by
 unfold QM zq
 obtain ⟨s, hs, hI⟩ := Ze (R := List zi) (b := fun k14 s20 => Option.bind (Option.bind (idx steps (k14 : Int)) fun x41 => Option.bind (if (decide (x41.after ≤ (w64 (m - w.since)))) = true then some (k14 : Int) else some s20) fun s51 => some s51) fun s34 => some (.nx s34))
  steps.length (fun k s => s = zct steps (m - w.since) k) (s := -1) rfl
  (by
   rintro k s hk rfl
   have hx : steps[k]? = some steps[k] := List.getElem?_eq_getElem hk
   generalize steps[k] = x at hx
   simp only [zP, hx, Option.bind_some, zct]
   rw [Zi (n := m - w.since) (by omega) (by omega)]
   by_cases h : x.after ≤ m - w.since
   ·simp only [decide_eq_true h, if_true, Option.bind_some, if_pos h]
    exact ⟨_, rfl, rfl⟩
   ·simp only [decide_eq_false h, Bool.false_eq_true, if_false, Option.bind_some, if_neg h]
    exact ⟨_, rfl, rfl⟩)
 rw [hs]
 simp only [Option.bind_some, Lp.andThen_fin]
 subst hI
 unfold qi
 rcases zhl steps (m - w.since) steps.length (Nat.le_refl _) with e | ⟨j, hj, e⟩
 ·rw [e]
  have hap : zt 5864062014805 ([] : List zi) w.needs = some w.needs := by
   unfold zt
   rw [if_pos (by simp; omega)]
   rfl
  have e2 : idx steps (-1) = none := rfl
  simp only [if_pos (show (-1 : Int) < 0 by decide), Option.bind_some, hap, if_true, e2]
 ·rw [e]
  have hx : steps[j]? = some steps[j] := List.getElem?_eq_getElem hj
  generalize steps[j] = x77 at hx
  simp only [if_neg (show ¬ (j : Int) < 0 by omega), zP, hx, Option.map_some, Option.bind_some, Bool.false_eq_true, if_false]
  by_cases ha : x77.any = true
  ·simp only [ha, if_true]
  ·simp only [ha, if_false, Bool.false_eq_true]
   obtain ⟨t, ht, hI2, _⟩ := Ze (R := List zi) (b := fun k91 s99 => Option.bind (Option.bind (idx w.needs (k91 : Int)) fun x124 => Option.bind (if (decide ((1 : Int) ≤ (w64 (x124.rank - x77.lower)))) = true then Option.bind (zt 5864062014805 s99 ([(⟨x124.name, w64 (x124.rank - x77.lower)⟩ : zi)] : List zi)) fun x165 => some x165 else some s99) fun s149 => some s149) fun s115 => some (.nx s115))
    w.needs.length (fun k s => s = (w.needs.take k).filterMap (lowS x77.lower) ∧ s.length ≤ k) (s := ([] : List zi)) ⟨rfl, by simp⟩
    (by
     rintro k s hk ⟨rfl, hl⟩
     have hx : w.needs[k]? = some w.needs[k] := List.getElem?_eq_getElem hk
     generalize w.needs[k] = y at hx
     have et : (w.needs.take (k + 1)).filterMap (lowS x77.lower) = (w.needs.take k).filterMap (lowS x77.lower) ++ (lowS x77.lower y).toList := by
      rw [List.take_add_one, hx, List.filterMap_append]
      cases h : lowS x77.lower y <;> simp [h]
     simp only [zP, hx, Option.bind_some, et]
     generalize (w.needs.take k).filterMap (lowS x77.lower) = l0 at hl
     unfold lowS
     by_cases h : 1 ≤ w64 (y.rank - x77.lower)
     ·have hap : ∀ l : List zi, l.length ≤ k → zt 5864062014805 l [(⟨y.name, w64 (y.rank - x77.lower)⟩ : zi)] = some (l ++ [⟨y.name, w64 (y.rank - x77.lower)⟩]) := fun l hl => by
       unfold zt
       rw [if_pos (by simp; omega)]
      simp only [decide_eq_true h, if_true, hap _ hl, Option.bind_some, if_pos h]
      exact ⟨_, rfl, rfl, by simp; omega⟩
     ·simp only [decide_eq_false h, Bool.false_eq_true, if_false, Option.bind_some, if_neg h]
      exact ⟨_, rfl, (List.append_nil _).symm, by omega⟩)
   simp only [zP] at ht
   rw [ht, hI2, List.take_length]
   rfl
theorem zjX {w : za} (hw : SkOK w.needs) {steps : List zk} (hs : StOK steps) (m : Int) : SkOK (qi w steps m) := by
 unfold qi
 split
 ·exact hw
 ·rename_i s hx
  have hlow := (hs.2 s (ziA hx)).2
  split
  ·exact ⟨by simp, fun _ h => by simp at h, fun _ h => by simp at h, .nil⟩
  ·have at_ : ∀ x ∈ w.needs, ∀ y, lowS s.lower x = some y → y.name = x.name ∧ 1 ≤ y.rank ∧ y.rank ≤ 9 := fun x hx y hy => by
    have := hw.rank x hx
    unfold lowS at hy
    split at hy
    ·rename_i h1
     cases hy
     refine ⟨rfl, h1, ?_⟩
     show w64 (x.rank - s.lower) ≤ 9
     rw [Zi (by omega) (by omega)]
     omega
    ·cases hy
   refine ⟨Nat.le_trans (List.length_filterMap_le _ _) hw.len, fun y hy => ?_, fun y hy => ?_, ?_⟩
   ·obtain ⟨x, hx, e⟩ := List.mem_filterMap.1 hy
    rw [(at_ x hx y e).1]
    exact hw.name x hx
   ·obtain ⟨x, hx, e⟩ := List.mem_filterMap.1 hy
    exact (at_ x hx y e).2
   ·refine List.pairwise_filterMap.2 ?_
    refine List.Pairwise.imp_of_mem ?_ hw.rise
    intro a b ha hb h u hu v hv
    rw [(at_ a ha u hu).1, (at_ b hb v hv).1]
    exact h
theorem zid {w v : za} (h1 : w.since = v.since) (h2 : w.needs = v.needs) (steps : List zk) (m : Int) : qi w steps m = qi v steps m := by
 unfold qi
 rw [h1, h2]
def ablB (p : zd) (needs : List zi) : Bool := (ZV p needs).getD false
theorem zgg (s : List zi) (q : zi → Bool) : ∃ b, Zb s (fun x => some (q x)) = some b := by
 unfold Zb ZM
 rw [zad]
 cases s.findIdx? q <;> exact ⟨_, rfl⟩
theorem zhG (p : zd) (needs : List zi) : ZV p needs = some (ablB p needs) := by
 suffices h : ∃ b, ZV p needs = some b by
  obtain ⟨b, e⟩ := h
  unfold ablB
  rw [e]
  rfl
 unfold ZV QS
 obtain ⟨x, hx, hq⟩ := JO (R := Bool) (body := fun k14 (_ : Unit) => Option.bind (idx needs (k14 : Int)) fun x33 => Option.bind (Zb p.skills (fun y50 => some ((ja y50.name x33.name) && (decide (x33.rank ≤ y50.rank))))) fun x51 => if (!x51) = true then some (.rt false) else some (.nx ()))
  needs.length (fun _ _ => True) (fun _ => True) (s := ()) trivial
  (by
   rintro k _ hk _
   have hx : needs[k]? = some needs[k] := List.getElem?_eq_getElem hk
   generalize needs[k] = y at hx
   obtain ⟨b, hb⟩ := zgg p.skills (fun z => (ja z.name y.name) && (decide (y.rank ≤ z.rank)))
   simp only [zP, hx, Option.bind_some, hb]
   cases b with
   | true => exact ⟨.nx (), rfl, trivial⟩
   | false => exact ⟨.rt false, rfl, trivial⟩)
  (fun _ _ => trivial)
 rw [hx]
 cases x with
 | fin s => exact ⟨true, rfl⟩
 | rt r => exact ⟨r, rfl⟩
end Go.Proofs.YtiblagcmjobknaaGreatDoor.M
namespace Go.Proofs.YtiblagcmjobknaaGreatDoor.M
open Go Go.Pu
set_option linter.unusedSimpArgs false
set_option linter.unusedVariables false
structure zef (people : List zd) (cals : List zg) : Prop where
 ppl : Jg people
 most : cals.length ≤ 20
 each : ∀ (k : Nat) (c : zg), cals[k]? = some c → JC c ∧ ZD c = some 0
 has : ∀ (k : Nat) (p : zd), people[k]? = some p → 0 ≤ p.calendar ∧ p.calendar < (cals.length : Int)
theorem zcX (a b : Int) : Zz [a, b] = some (if a ≠ 0 then a else b) := zlN a b
theorem zep {m : Int} (hm : 0 ≤ m ∧ m ≤ 3000000) : Zm m = 0 := by
 unfold Zm
 rw [if_neg]
 simp [zW]
 omega
theorem zkc (l : List zd) (hs : ∀ p ∈ l, ∀ k ∈ p.skills, k.name.size ≤ 9223372036854775807) : ∃ r, ZT l = some r ∧ (r = 0 → Jg l ∧ ∀ p ∈ l, SkOK p.skills) := by
 unfold ZT
 by_cases h1 : (40 : Int) < (l.length : Int)
 ·rw [if_pos (by simpa using h1)]
  exact ⟨4, rfl, fun h => absurd h (by decide)⟩
 rw [if_neg (by simpa using h1)]
 refine zbQ (fun k _ => ∀ (j : Nat) (p : zd), j < k → l[j]? = some p → ((1 ≤ p.no ∧ p.no ≤ 40) ∧ (0 ≤ p.capacity ∧ p.capacity ≤ 100) ∧ (0 ≤ p.calendar ∧ p.calendar ≤ 19) ∧ ∀ (i : Nat) (q : zd), i < j → l[i]? = some q → q.no < p.no) ∧ SkOK p.skills) (fun j p h => absurd h (Nat.not_lt_zero j)) ?_ ?_
 ·rintro k _ hk hI
  have hx : l[k]? = some l[k] := List.getElem?_eq_getElem hk
  have hsz := hs _ (List.getElem_mem hk)
  have hb := zfD hk (by omega) (fun x50 : zd => decide ((l[k]).no ≤ x50.no))
  generalize l[k] = p at hx hsz hb
  have hy : l[k - 1]? = some l[k - 1] := List.getElem?_eq_getElem (by omega)
  rw [zP, hx, Option.bind_some, hb, hy]
  generalize l[k - 1] = q at hy
  dsimp only
  by_cases h2 : 1 ≤ p.no ∧ p.no ≤ 40
  rotate_left
  ·rw [if_pos (by simp [zm]; omega)]
   exact .inl ⟨2, rfl, by decide⟩
  rw [if_neg (by simp [zm]; omega), Option.bind_some]
  by_cases h3 : (decide (0 < k) && decide (p.no ≤ q.no)) = true
  ·rw [if_pos h3]
   exact .inl ⟨5, rfl, by decide⟩
  rw [if_neg h3]
  by_cases h4 : (0 ≤ p.capacity ∧ p.capacity ≤ 100) ∧ (0 ≤ p.calendar ∧ p.calendar ≤ 19)
  rotate_left
  ·rw [if_pos (by simp [zm]; omega)]
   exact .inl ⟨2, rfl, by decide⟩
  rw [if_neg (by simp [zm]; omega)]
  obtain ⟨r, r1, r2⟩ := zdw p.skills hsz
  rw [r1, Option.bind_some]
  by_cases h0 : r = 0
  rotate_left
  ·rw [if_pos (by simpa using h0)]
   exact .inl ⟨r, rfl, h0⟩
  rw [if_neg (by simpa using h0)]
  refine .inr ⟨(), rfl, fun j u hj hu => ?_⟩
  rcases Nat.lt_or_eq_of_le (Nat.le_of_lt_succ hj) with h5 | rfl
  ·exact hI j u h5 hu
  ·rw [hx] at hu
   cases hu
   refine ⟨⟨h2, h4.1, h4.2, fun i v hi hv => ?_⟩, r2.1 h0⟩
   simp only [Bool.and_eq_true, decide_eq_true_eq] at h3
   rcases Nat.lt_or_eq_of_le (show i ≤ j - 1 by omega) with h6 | rfl
   ·have := (hI (j - 1) q (by omega) hy).1.2.2.2 i v h6 hv
    omega
   ·rw [hy] at hv
    cases hv
    omega
 ·rintro _ hI
  have at_ : ∀ (j : Nat) (p : zd), l[j]? = some p → _ := fun j p h => hI j p (List.getElem?_eq_some_iff.1 h).1 h
  refine ⟨0, rfl, fun _ => ⟨⟨by omega, fun j p h => (at_ j p h).1⟩, fun p hp => ?_⟩⟩
  obtain ⟨j, hj⟩ := List.mem_iff_getElem?.1 hp
  exact (at_ j p hj).2
theorem zlj (people : List zd) (cals : List zg) (hs : ∀ p ∈ people, ∀ k ∈ p.skills, k.name.size ≤ 9223372036854775807) : ∃ r, qQ people cals = some r ∧ (r = 0 → zef people cals ∧ ZT people = some 0 ∧ ∀ p ∈ people, SkOK p.skills) := by
 unfold qQ
 obtain ⟨r1, a1, c1⟩ := zkc people hs
 rw [a1, Option.bind_some]
 by_cases h0 : r1 = 0
 rotate_left
 ·rw [if_pos (by simpa using h0)]
  exact ⟨r1, rfl, fun h => absurd h h0⟩
 subst h0
 rw [if_neg (by simp)]
 by_cases h1 : (20 : Int) < (cals.length : Int)
 ·rw [if_pos (by simpa using h1)]
  exact ⟨4, rfl, fun h => absurd h (by decide)⟩
 rw [if_neg (by simpa using h1)]
 refine zbQ (fun k _ => ∀ (j : Nat) (c : zg), j < k → cals[j]? = some c → JC c ∧ ZD c = some 0) (fun j p h => absurd h (Nat.not_lt_zero j)) ?_ ?_
 ·rintro k _ hk hI
  have hx : cals[k]? = some cals[k] := List.getElem?_eq_getElem hk
  generalize cals[k] = c at hx
  obtain ⟨r, r1, r2⟩ := zlD c
  rw [zP, hx, Option.bind_some, r1, Option.bind_some]
  by_cases h0 : r = 0
  rotate_left
  ·rw [if_pos (by simpa using h0)]
   exact .inl ⟨r, rfl, h0⟩
  rw [if_neg (by simpa using h0)]
  refine .inr ⟨(), rfl, fun j u hj hu => ?_⟩
  rcases Nat.lt_or_eq_of_le (Nat.le_of_lt_succ hj) with h5 | rfl
  ·exact hI j u h5 hu
  ·rw [hx] at hu
   cases hu
   exact ⟨r2 h0, by rw [r1, h0]⟩
 rintro _ hI
 refine zbQ (fun k _ => ∀ (j : Nat) (p : zd), j < k → people[j]? = some p → p.calendar < (cals.length : Int)) (fun j p h => absurd h (Nat.not_lt_zero j)) ?_ ?_
 ·rintro k _ hk hJ
  have hx : people[k]? = some people[k] := List.getElem?_eq_getElem hk
  generalize people[k] = p at hx
  rw [zP, hx, Option.bind_some]
  by_cases h0 : (cals.length : Int) ≤ p.calendar
  ·rw [if_pos (by simpa using h0)]
   exact .inl ⟨7, rfl, by decide⟩
  rw [if_neg (by simpa using h0)]
  refine .inr ⟨(), rfl, fun j u hj hu => ?_⟩
  rcases Nat.lt_or_eq_of_le (Nat.le_of_lt_succ hj) with h5 | rfl
  ·exact hJ j u h5 hu
  ·rw [hx] at hu
   cases hu
   omega
 ·rintro _ hJ
  exact ⟨0, rfl, fun _ => ⟨⟨(c1 rfl).1, by omega, fun k c h => hI k c (List.getElem?_eq_some_iff.1 h).1 h, fun k p h => ⟨((c1 rfl).1.2 k p h).2.2.1.1, hJ k p (List.getElem?_eq_some_iff.1 h).1 h⟩⟩, rfl, (c1 rfl).2⟩⟩
theorem ziE {people : List zd} {cals : List zg} (hd : zef people cals) {k : Nat} {p : zd} (h : people[k]? = some p) : ∃ c, idx cals p.calendar = some c ∧ cals[p.calendar.toNat]? = some c ∧ JC c ∧ ZD c = some 0 := by
 obtain ⟨h1, h2⟩ := hd.has k p h
 obtain ⟨c, e1, e2⟩ := zdn h1 h2
 exact ⟨c, e1, e2, hd.each _ c e2⟩
end Go.Proofs.YtiblagcmjobknaaGreatDoor.M
namespace Go.Proofs.YtiblagcmjobknaaGreatDoor.M
open Go Go.Pu
set_option linter.unusedSimpArgs false
set_option linter.unusedVariables false
def pos (people : List zd) (no : Int) : Int := match people.findIdx? (fun p => p.no == no) with | some i => (i : Int) | none => -1
theorem zgp (people : List zd) (no : Int) : zY people (fun y9 => some (y9.no == no)) = some (pos people no) := by
 unfold zY
 rw [zad people (fun p => p.no == no)]
 unfold pos
 cases people.findIdx? (fun p => p.no == no) <;> rfl
theorem zaN (people : List zd) (no : Int) : qf people no = some (pos people no) := by
 unfold qf jK
 rw [zgp]
 rfl
theorem zfk {people : List zd} {no : Int} (h : 0 ≤ pos people no) : ∃ (i : Nat) (p : zd), pos people no = (i : Int) ∧ people[i]? = some p ∧ p.no = no := by
 unfold pos at h ⊢
 cases hf : people.findIdx? (fun p => p.no == no) with
 | none => rw [hf] at h; simp at h
 | some i =>
  obtain ⟨hi, hp, _⟩ := List.findIdx?_eq_some_iff_getElem.1 hf
  exact ⟨i, people[i], rfl, List.getElem?_eq_getElem hi, by simpa using hp⟩
theorem zbq {people : List zd} (hp : Jg people) {i j : Nat} {p q : zd} (h1 : people[i]? = some p) (h2 : people[j]? = some q) (h : p.no = q.no) : i = j := by
 rcases Nat.lt_trichotomy i j with h3 | h3 | h3
 ·have := (hp.2 j q h2).2.2.2 i p h3 h1
  omega
 ·exact h3
 ·have := (hp.2 i p h1).2.2.2 j q h3 h2
  omega
end Go.Proofs.YtiblagcmjobknaaGreatDoor.M
namespace Go.Proofs.YtiblagcmjobknaaGreatDoor.M
open Go Go.Pu
set_option linter.unusedSimpArgs false
set_option linter.unusedVariables false
def zlH (l : List za) (k : Nat) : Prop := ∀ (j : Nat) (w : za), j < k → l[j]? = some w → (1 ≤ w.ticket ∧ w.ticket ≤ 400) ∧ ((1 ≤ w.weight ∧ w.weight ≤ 20) ∧ (0 ≤ w.urgency ∧ w.urgency ≤ 9) ∧ (0 ≤ w.since ∧ w.since ≤ 3000000) ∧ (0 ≤ w.former ∧ w.former ≤ 40) ∧ w.needs.length ≤ 12) ∧ ∀ (i : Nat) (q : za), i < j → l[i]? = some q → q.ticket ≠ w.ticket
def zbt (l : List za) : Prop := l.length ≤ 200 ∧ zlH l l.length
def cmpI (x y : Int) : Int := if x < y then -1 else if y < x then 1 else 0
theorem zel (x y : Int) : zj x y = cmpI x y := QZ x y
def Jp : List Int → Int
 | [] => 0
 | x :: l => if x ≠ 0 then x else Jp l
theorem zkb (l : List Int) : jx l = some (Jp l) := by
 unfold jx
 have key : ∀ (m : List Int) (k : Nat), forL (R := Int) (fun _ x (_ : Unit) => if (x != 0) = true then some (.rt x) else some (.nx ())) m k () = some (if Jp m = 0 then .fin () else .rt (Jp m)) := by
  intro m
  induction m with
  | nil => intro k; rfl
  | cons x m ih =>
   intro k
   rw [forL, Jp]
   by_cases h : x = 0
   ·subst h
    have e : Jp m = (if (0 : Int) ≠ 0 then 0 else Jp m) := rfl
    rw [← e, if_neg (show ¬ (((0 : Int) != 0) = true) by decide)]
    exact ih (k + 1)
   ·simp [h]
 rw [zbl l (fun _ x (_ : Unit) => if (x != 0) = true then some (.rt x) else some (.nx ())) _ (fun k _ x hx => by simp [zP, hx]) (), key]
 by_cases h : Jp l = 0
 ·simp [h, Lp.andThen]
 ·simp [h, Lp.andThen]
def jS (n : Nat) : List Int := (List.range n).map fun i : Nat => (i : Int)
theorem zjO (n j : Nat) : (jS n)[j]? = if j < n then some (j : Int) else none := by
 unfold jS
 rw [List.getElem?_map]
 by_cases h : j < n
 ·rw [if_pos h, List.getElem?_range h]; rfl
 ·rw [if_neg h, List.getElem?_eq_none (by simpa using h)]; rfl
theorem zgI {n : Nat} {x : Int} (h : x ∈ jS n) : ∃ j : Nat, j < n ∧ x = (j : Int) := by
 unfold jS at h
 obtain ⟨j, hj, rfl⟩ := List.mem_map.1 h
 exact ⟨j, List.mem_range.1 hj, rfl⟩
theorem zjp (n : Nat) : jS (n + 1) = jS n ++ [(n : Int)] := by
 unfold jS
 rw [List.range_succ, List.map_append]
 rfl
theorem zek (n : Nat) : (jS n).length = n := by simp [jS]
def JM (p q : za) : Prop := q.urgency < p.urgency ∨ p.urgency = q.urgency ∧ (p.since < q.since ∨ p.since = q.since ∧ p.ticket < q.ticket)
theorem zgJ (l : List za) (i j : Nat) (p q : za) (hp : l[i]? = some p) (hq : l[j]? = some q) : ∃ c, qY (i : Int) (j : Int) l = some c ∧ (c < 0 ↔ JM p q) := by
 unfold qY
 rw [zP, hp, Option.bind_some, zP, hq, Option.bind_some, zkb]
 refine ⟨_, rfl, ?_⟩
 rw [QZ, QZ, QZ]
 simp only [Jp, cmpI, JM]
 repeat' split
 all_goals omega
theorem zkS (l : List za) (h : zbt l) : zdf (fun x y => qY x y l) (jS l.length) := by
 have at_ : ∀ x ∈ jS l.length, ∃ (j : Nat) (w : za), x = (j : Int) ∧ l[j]? = some w := fun x hx => by
  obtain ⟨j, hj, rfl⟩ := zgI hx
  exact ⟨j, _, rfl, List.getElem?_eq_getElem hj⟩
 have lt_ : ∀ (i j : Nat) (p q : za), l[i]? = some p → l[j]? = some q → (ZI (fun x y => qY x y l) (i : Int) (j : Int) = true ↔ JM p q) := fun i j p q hp hq => by
  obtain ⟨c, hc, hb⟩ := zgJ l i j p q hp hq
  unfold ZI
  simp only [hc]
  rw [decide_eq_true_eq]
  exact hb
 refine ⟨by rw [zek]; have := h.1; omega, ?_, ?_, ?_, ?_, ?_⟩
 ·intro x hx y hy
  obtain ⟨i, p, rfl, hp⟩ := at_ x hx
  obtain ⟨j, q, rfl, hq⟩ := at_ y hy
  obtain ⟨c, hc, _⟩ := zgJ l i j p q hp hq
  exact ⟨c, hc⟩
 ·intro x hx
  obtain ⟨i, p, rfl, hp⟩ := at_ x hx
  rw [← Bool.not_eq_true, lt_ i i p p hp hp]
  unfold JM
  omega
 ·intro x hx y hy z hz
  obtain ⟨i, p, rfl, hp⟩ := at_ x hx
  obtain ⟨j, q, rfl, hq⟩ := at_ y hy
  obtain ⟨k, r, rfl, hr⟩ := at_ z hz
  rw [lt_ i j p q hp hq, lt_ j k q r hq hr, lt_ i k p r hp hr]
  unfold JM
  omega
 ·intro x hx y hy z hz
  obtain ⟨i, p, rfl, hp⟩ := at_ x hx
  obtain ⟨j, q, rfl, hq⟩ := at_ y hy
  obtain ⟨k, r, rfl, hr⟩ := at_ z hz
  rw [← Bool.not_eq_true, ← Bool.not_eq_true, ← Bool.not_eq_true, lt_ i j p q hp hq, lt_ j k q r hq hr, lt_ i k p r hp hr]
  unfold JM
  omega
 ·intro x hx y hy
  obtain ⟨i, p, rfl, hp⟩ := at_ x hx
  obtain ⟨j, q, rfl, hq⟩ := at_ y hy
  rw [← Bool.not_eq_true, ← Bool.not_eq_true, lt_ i j p q hp hq, lt_ j i q p hq hp]
  intro h1 h2
  have ht : p.ticket = q.ticket := by unfold JM at h1 h2; omega
  have hi := (List.getElem?_eq_some_iff.1 hp).1
  have hj := (List.getElem?_eq_some_iff.1 hq).1
  rcases Nat.lt_trichotomy i j with h3 | h3 | h3
  ·exact absurd ht ((h.2 j q hj hq).2.2 i p h3 hp)
  ·rw [h3]
  ·exact absurd ht.symm ((h.2 i p hi hp).2.2 j q h3 hq)
noncomputable def qW (l : List za) : List Int := (jS l.length).mergeSort fun x y => !(ZI (fun x y => qY x y l) y x)
theorem zkB (l : List za) (h : zbt l) : Qr (fun x y => qY x y l) (jS l.length) = some (qW l) := by
 unfold Qr
 rw [if_pos (zkS l h)]
 rfl
theorem zfJ (l : List za) (h : zbt l) : zaq l = some (qW l) := by
 unfold zaq
 obtain ⟨t, h1, h2⟩ := Ze (R := List Int) (b := fun k19 s27 => Option.bind (zt 17592186044416 s27 ([(k19 : Int)] : List Int)) fun x47 => some (.nx x47)) l.length (fun k s => s = jS k) (s := []) rfl fun k s hk hs => by
  subst hs
  unfold zt
  rw [if_pos (by rw [zek]; have := h.1; simp; omega)]
  exact ⟨_, rfl, (zjp k).symm⟩
 rw [h1, h2, Option.bind_some, Lp.andThen_fin, zkB l h]
 rfl
end Go.Proofs.YtiblagcmjobknaaGreatDoor.M
namespace Go.Proofs.YtiblagcmjobknaaGreatDoor.M
open Go Go.Pu
set_option linter.unusedSimpArgs false
set_option linter.unusedVariables false
theorem Jh {κ α : Type} [DecidableEq κ] (l : List (κ × α)) (k k' : κ) (v : α) : zw (QO l k v) k' = if k = k' then some v else zw l k' := by
 unfold QO
 by_cases h : ∃ p ∈ l, p.1 = k
 ·rw [if_pos h]
  induction l with
  | nil => obtain ⟨p, hp, _⟩ := h; simp at hp
  | cons p l ih =>
   rw [List.map_cons, zw, zw]
   by_cases hp : p.1 = k
   ·rw [if_pos hp]
    by_cases hk : k = k'
    ·rw [if_pos hk, if_pos hk]
    ·rw [if_neg hk, if_neg hk, if_neg (by rw [hp]; exact hk)]
     by_cases h2 : ∃ p ∈ l, p.1 = k
     ·rw [ih h2, if_neg hk]
     ·have : l.map (fun q => if q.1 = k then (k, v) else q) = l := by
       conv => rhs; rw [← List.map_id l]
       apply List.map_congr_left
       intro q hq
       rw [if_neg (fun e => h2 ⟨q, hq, e⟩)]
       rfl
      rw [this]
   ·rw [if_neg hp]
    have h2 : ∃ p ∈ l, p.1 = k := by
     obtain ⟨q, hq, e⟩ := h
     rcases List.mem_cons.1 hq with rfl | hq
     ·exact absurd e hp
     ·exact ⟨q, hq, e⟩
    by_cases hp' : p.1 = k'
    ·rw [if_pos hp', if_pos hp', if_neg (fun e => hp (hp'.trans e.symm))]
    ·rw [if_neg hp', if_neg hp', ih h2]
 ·rw [if_neg h]
  induction l with
  | nil => simp [zw]
  | cons p l ih =>
   have hp : p.1 ≠ k := fun e => h ⟨p, by simp, e⟩
   have h2 : ¬ ∃ p ∈ l, p.1 = k := fun ⟨q, hq, e⟩ => h ⟨q, by simp [hq], e⟩
   rw [List.cons_append, zw, zw, ih h2]
   by_cases hp' : p.1 = k'
   ·rw [if_pos hp', if_pos hp', if_neg (fun e => hp (hp'.trans e.symm))]
   ·rw [if_neg hp', if_neg hp']
end Go.Proofs.YtiblagcmjobknaaGreatDoor.M
namespace Go.Proofs.YtiblagcmjobknaaGreatDoor.M
open Go Go.Pu
set_option linter.unusedSimpArgs false
set_option linter.unusedVariables false
abbrev zeF (c : zg) : Prop := JC c ∧ ZD c = some 0
noncomputable def opn (c : zg) (m : Int) : Bool := match Qb c m with
 | some (b, _) => b
 | none => false
theorem zgo {O : Int → Prop} {a b : Int} (h : zjh O a b []) (m : Int) (h1 : a ≤ m) (h2 : m < b) : ¬ O m := by
 rw [h.all m h1 h2]
 simp
theorem zfq {O : Int → Prop} {a b : Int} {x : zr} {l : List zr} (h : zjh O a b (x :: l)) : (a ≤ x.from_ ∧ x.from_ < x.to_ ∧ x.to_ ≤ b) ∧ (∀ m, a ≤ m → m < x.from_ → ¬ O m) ∧ (∀ m, x.from_ ≤ m → m < x.to_ → O m) ∧ (x.to_ < b → ¬ O x.to_) := by
 have he := h.each x (by simp)
 have hp := (List.pairwise_cons.1 h.apart).1
 refine ⟨he, fun m h1 h2 => ?_, fun m h1 h2 => (h.all m (by omega) (by omega)).2 ⟨x, by simp, h1, h2⟩, fun h1 => ?_⟩
 ·rw [h.all m h1 (by omega)]
  rintro ⟨y, hy, q1, q2⟩
  rcases List.mem_cons.1 hy with rfl | hy
  ·omega
  ·have := hp y hy; omega
 ·rw [h.all _ (by omega) h1]
  rintro ⟨y, hy, q1, q2⟩
  rcases List.mem_cons.1 hy with rfl | hy
  ·omega
  ·have := hp y hy; omega
theorem zgx {c : zg} (hc : zeF c) (m : Int) (hm : 0 ≤ m ∧ m ≤ 3000000) : Qb c m = some (opn c m, 0) ∧ (opn c m = true ↔ Opn c m) := by
 suffices h : ∃ b, Qb c m = some (b, 0) ∧ (b = true ↔ Opn c m) by
  obtain ⟨b, e, h⟩ := h
  unfold opn
  rw [e]
  exact ⟨rfl, h⟩
 have hop := zew hc.1 m (m + 1) (by omega) (by omega)
 have hall := hop.all m (Int.le_refl _) (by omega)
 unfold Qb
 simp only [hc.2, Option.bind_some, zcX, zep hm, ne_eq, not_true, if_false, bne_self_eq_false, Bool.false_eq_true, qq]
 rw [Zi (n := m + 1) (by omega) (by omega), zfg hc.1 m (m + 1) (by omega) (by omega)]
 cases hl : zdI c m (m + 1) with
 | nil =>
  refine ⟨false, by simp [qb], fun h => (by cases h), fun h => ?_⟩
  have := hall.1 h
  rw [hl] at this
  simp at this
 | cons x l =>
  have he := hop.each x (by rw [hl]; simp)
  exact ⟨true, by simp [qb, QD], fun _ => hall.2 ⟨x, by rw [hl]; simp, by omega, by omega⟩, fun _ => rfl⟩
theorem zfc {c : zg} (hc : zeF c) (m : Int) (hm : 0 ≤ m ∧ m ≤ 3000000) : Qb c m = some (opn c m, 0) := (zgx hc m hm).1
theorem zbR {c : zg} (hc : zeF c) (m : Int) (hm : 0 ≤ m ∧ m ≤ 3000000) : opn c m = true ↔ Opn c m := (zgx hc m hm).2
theorem zhs {c : zg} (hc : zeF c) (m : Int) (hm : 0 ≤ m ∧ m ≤ 3000000) : ∃ v e, QJ c m = some (v, e) ∧ (e = 0 → m ≤ v ∧ v ≤ 3000000 ∧ opn c v = true ∧ ∀ u, m ≤ u → u < v → opn c u = false) ∧ (e ≠ 0 → ∀ u, m ≤ u → u ≤ 3000000 → opn c u = false) := by
 have hop := zew hc.1 m 3000001 (by omega) (by omega)
 unfold QJ
 simp only [hc.2, zep hm, zcX, ne_eq, not_true, if_false, bne_self_eq_false, Bool.false_eq_true, qq, Option.bind_some]
 rw [zfg hc.1 m 3000001 (by omega) (by omega)]
 cases hl : zdI c m 3000001 with
 | nil =>
  rw [hl] at hop
  refine ⟨0, 7, by simp [qb], fun h => absurd h (by decide), fun _ u h1 h2 => ?_⟩
  have := zgo hop u h1 (by omega)
  rw [← Bool.not_eq_true, zbR hc u (by omega)]
  exact this
 | cons x l =>
  rw [hl] at hop
  obtain ⟨g1, g2, g3, g4⟩ := zfq hop
  refine ⟨x.from_, 0, by simp [qb, QD], fun _ => ⟨g1.1, by omega, (zbR hc _ (by omega)).2 (g3 _ (Int.le_refl _) g1.2.1), fun u h1 h2 => ?_⟩, fun h => absurd rfl h⟩
  rw [← Bool.not_eq_true, zbR hc u (by omega)]
  exact g2 u h1 h2
theorem zgf {c : zg} (hc : zeF c) (m : Int) (hm : 0 ≤ m ∧ m ≤ 3000000) : ∃ v e, qp c m = some (v, e) ∧ (e = 0 → m ≤ v ∧ v ≤ 3000000 ∧ opn c v = false ∧ ∀ u, m ≤ u → u < v → opn c u = true) ∧ (e ≠ 0 → ∀ u, m ≤ u → u ≤ 3000000 → opn c u = true) := by
 have hop := zew hc.1 m 3000001 (by omega) (by omega)
 unfold qp
 simp only [hc.2, zep hm, zcX, ne_eq, not_true, if_false, bne_self_eq_false, Bool.false_eq_true, qq, Option.bind_some]
 rw [zfg hc.1 m 3000001 (by omega) (by omega)]
 have no : ∀ u, 0 ≤ u ∧ u ≤ 3000000 → ¬ Opn c u → opn c u = false := fun u hu h => by
  rw [← Bool.not_eq_true, zbR hc u hu]
  exact h
 cases hl : zdI c m 3000001 with
 | nil =>
  rw [hl] at hop
  refine ⟨m, 0, by simp [qb, show ¬ (3000000 : Int) < m by omega], fun _ => ⟨Int.le_refl _, hm.2, no m hm (zgo hop m (Int.le_refl _) (by omega)), fun u h1 h2 => by omega⟩, fun h => absurd rfl h⟩
 | cons x l =>
  rw [hl] at hop
  obtain ⟨g1, g2, g3, g4⟩ := zfq hop
  by_cases hx : x.from_ = m
  ·have hxb : (x.from_ == m) = true := by simpa using hx
   by_cases ht : (3000000 : Int) < x.to_
   ·refine ⟨0, 7, by simp [qb, QD, hxb, ht], fun h => absurd h (by decide), fun _ u h1 h2 => (zbR hc u (by omega)).2 (g3 u (by omega) (by omega))⟩
   ·refine ⟨x.to_, 0, by simp [qb, QD, hxb, ht], fun _ => ⟨by omega, by omega, no _ (by omega) (g4 (by omega)), fun u h1 h2 => (zbR hc u (by omega)).2 (g3 u (by omega) h2)⟩, fun h => absurd rfl h⟩
  ·have hxb : (x.from_ == m) = false := by simpa using hx
   refine ⟨m, 0, by simp [qb, QD, hxb, show ¬ (3000000 : Int) < m by omega], fun _ => ⟨Int.le_refl _, hm.2, no m hm (g2 m (Int.le_refl _) (by omega)), fun u h1 h2 => by omega⟩, fun h => absurd rfl h⟩
noncomputable def onB (cals : List zg) (m : Int) (p : zd) : Bool := match idx cals p.calendar with
 | some c => opn c m
 | none => false
end Go.Proofs.YtiblagcmjobknaaGreatDoor.M
namespace Go.Proofs.YtiblagcmjobknaaGreatDoor.M
open Go Go.Pu
set_option linter.unusedSimpArgs false
set_option linter.unusedVariables false
theorem QC {α : Type} (l : List α) (k : Nat) (x : α) (h : k < l.length) : setI l (k : Int) x = some (l.set k x) := by
 rw [setI, if_pos ⟨by omega, by simpa using h⟩, Int.toNat_natCast]
theorem zaB {α : Type} {l : List α} {k : Nat} {x : α} (h : l[k]? = some x) : l.take (k + 1) = l.take k ++ [x] := by
 rw [List.take_add_one, h]
 rfl
def AllOK (people : List zd) (l : List zb) : Prop := l.length ≤ 1000 ∧ ∀ h ∈ l, (1 ≤ h.weight ∧ h.weight ≤ 20) ∧ 0 ≤ pos people h.person
def wOf (l : List zb) (no : Int) : Int := (l.map fun h => if h.person = no then h.weight else 0).sum
def lOf (l : List zb) (no : Int) : Int := l.foldl (fun s h => if h.person = no then (if s < h.since then h.since else s) else s) (-1)
theorem zfe (l : List zb) (h : zb) (no : Int) : wOf (l ++ [h]) no = wOf l no + if h.person = no then h.weight else 0 := by simp [wOf]
theorem zhC (l : List zb) (h : zb) (no : Int) : lOf (l ++ [h]) no = if h.person = no then (if lOf l no < h.since then h.since else lOf l no) else lOf l no := by
 unfold lOf
 rw [List.foldl_append]
 rfl
theorem zfY (no : Int) : ∀ l : List zb, (∀ h ∈ l, 1 ≤ h.weight ∧ h.weight ≤ 20) → 0 ≤ wOf l no ∧ wOf l no ≤ 20 * (l.length : Int)
 | [], _ => by simp [wOf]
 | h :: l, hl => by
  have ih := zfY no l fun x hx => hl x (List.mem_cons_of_mem _ hx)
  have hh := hl h List.mem_cons_self
  have e : wOf (h :: l) no = (if h.person = no then h.weight else 0) + wOf l no := by simp [wOf]
  rw [e, List.length_cons]
  split <;> omega
theorem AllOK.bnd {people : List zd} {l : List zb} (h : AllOK people l) (no : Int) : 0 ≤ wOf l no ∧ wOf l no ≤ 20000 := by
 have := zfY no l fun x hx => (h.2 x hx).1
 have := h.1
 omega
theorem AllOK.bndT {people : List zd} {l : List zb} (h : AllOK people l) (no : Int) (k : Nat) : 0 ≤ wOf (l.take k) no ∧ wOf (l.take k) no ≤ 20000 := by
 have h1 := zfY no (l.take k) fun x hx => (h.2 x (List.mem_of_mem_take hx)).1
 have := h.1
 have h2 : (l.take k).length ≤ l.length := by rw [List.length_take]; omega
 omega
theorem zcL {people : List zd} {held : List zb} (hp : Jg people) (ho : AllOK people held) : ∃ ws, jr people held = some ws ∧ ws.length = people.length ∧ ∀ (i : Nat) (p : zd), people[i]? = some p → ws[i]? = some (wOf held p.no) := by
 unfold jr
 have hmk : QN 35184372088832 (people.length : Int) (0 : Int) = some (List.replicate people.length 0) := by
  have := hp.1
  rw [QN, if_pos (by omega), Int.toNat_natCast]
 rw [hmk]
 simp only [Option.bind_some]
 obtain ⟨t, ht, h1, h2⟩ := Ze (R := List Int) (b := (fun k14 s22 => Option.bind (idx held (k14 : Int)) fun x37 => Option.bind (qf people x37.person) fun x51 => Option.bind (idx s22 x51) fun x52 => Option.bind (setI s22 x51 (w64 (x52 + x37.weight))) fun x65 => some (.nx x65)))
  held.length (fun k s => s.length = people.length ∧ ∀ (i : Nat) (p : zd), people[i]? = some p → s[i]? = some (wOf (held.take k) p.no)) (s := List.replicate people.length 0)
  ⟨by simp, fun i p hi => by
   have := (List.getElem?_eq_some_iff.1 hi).1
   simp [wOf, this]⟩
  (by
   rintro k s hk ⟨i1, i2⟩
   have hx : held[k]? = some held[k] := List.getElem?_eq_getElem hk
   obtain ⟨hw, hps⟩ := ho.2 _ (List.getElem_mem hk)
   generalize held[k] = x at hx hw hps
   obtain ⟨i0, p0, e1, e2, e3⟩ := zfk hps
   have hs0 := i2 i0 p0 e2
   have hlt := (List.getElem?_eq_some_iff.1 hs0).1
   have hb := ho.bndT p0.no k
   have hw2 : w64 (wOf (held.take k) p0.no + x.weight) = wOf (held.take k) p0.no + x.weight := Zi (by omega) (by omega)
   simp only [zP, hx, zaN, e1, hs0, hw2, QC _ _ _ hlt, Option.bind_some]
   refine ⟨_, rfl, by simpa using i1, fun i p hi => ?_⟩
   rw [zaB hx, zfe, List.getElem?_set]
   by_cases hii : i0 = i
   ·subst hii
    rw [e2] at hi
    cases hi
    rw [if_pos rfl, if_pos hlt, if_pos e3.symm]
   ·rw [if_neg hii, i2 i p hi]
    have : ¬ x.person = p.no := fun h => hii (zbq hp e2 hi (by omega))
    rw [if_neg this, Int.add_zero])
 rw [ht]
 rw [List.take_length] at h2
 exact ⟨t, rfl, h1, h2⟩
noncomputable def zbJ (people : List zd) (cals : List zg) (away : List Bool) (m : Int) (k : Nat) : Bool := match people[k]?, away[k]? with
 | some p, some b => onB cals m p && !b
 | _, _ => false
structure zcP (people : List zd) (dt : Nat → Bool) (all : List zb) (d : zT) : Prop where
 ppl : d.people = people
 dty : ∀ (i : Nat) (p : zd), people[i]? = some p → d.duty[i]? = some (dt i)
 wlen : d.weights.length = people.length
 wei : ∀ (i : Nat) (p : zd), people[i]? = some p → d.weights[i]? = some (wOf all p.no)
 llen : d.latest.length = people.length
 lat : ∀ (i : Nat) (p : zd), people[i]? = some p → d.latest[i]? = some (lOf all p.no)
theorem zlA {R : ze} (hd : zef R.assigner.people R.assigner.cals) (haw : R.assigner.away.length = R.assigner.people.length) {held : List zb} (ho : AllOK R.assigner.people held) (m : Int) (hm : 0 ≤ m ∧ m ≤ 3000000) :
  ∃ d, jv R held m = some d ∧ zcP R.assigner.people (zbJ R.assigner.people R.assigner.cals R.assigner.away m) held d := by
 obtain ⟨⟨people, cals, steps, away⟩, now, waiting, held0, work⟩ := R
 dsimp only at hd haw ho ⊢
 have hp := hd.ppl
 have hp1 := hp.1
 have hcl := hd.most
 unfold jv
 dsimp only
 have hm1 : QN 281474976710656 (people.length : Int) (false : Bool) = some (List.replicate people.length false) := by rw [QN, if_pos (by omega), Int.toNat_natCast]
 have hm2 : QN 35184372088832 (people.length : Int) (0 : Int) = some (List.replicate people.length 0) := by rw [QN, if_pos (by omega), Int.toNat_natCast]
 have hm3 : QN 281474976710656 (cals.length : Int) (false : Bool) = some (List.replicate cals.length false) := by rw [QN, if_pos (by omega), Int.toNat_natCast]
 obtain ⟨ws, w1, w2, w3⟩ := zcL hp ho
 rw [hm1, Option.bind_some, w1, Option.bind_some, hm2, Option.bind_some, hm3, Option.bind_some]
 obtain ⟨op, o1, o2, o3⟩ := Ze (R := zT) (b := (fun k77 s85 => Option.bind (idx cals (k77 : Int)) fun x100 => Option.bind (Qb x100 m) fun x135 => Option.bind (idx s85 (k77 : Int)) fun x139 => Option.bind (setI s85 (k77 : Int) x135.1) fun x144 => some (.nx x144)))
  cals.length (fun k s => s.length = cals.length ∧ ∀ (j : Nat) (c : zg), j < k → cals[j]? = some c → s[j]? = some (opn c m)) (s := List.replicate cals.length false)
  ⟨by simp, fun j c h => absurd h (Nat.not_lt_zero _)⟩
  (by
   rintro k s hk ⟨i1, i2⟩
   have hx : cals[k]? = some cals[k] := List.getElem?_eq_getElem hk
   generalize cals[k] = c at hx
   have b1 := zfc (hd.each k c hx) m hm
   have hs : s[k]? = some s[k] := List.getElem?_eq_getElem (by omega)
   simp only [zP, hx, Option.bind_some, b1, hs, QC s k _ (show k < s.length by omega)]
   refine ⟨_, rfl, by simpa using i1, fun j c2 hj hc2 => ?_⟩
   rw [List.getElem?_set]
   by_cases hjk : k = j
   ·subst hjk
    rw [hx] at hc2
    cases hc2
    rw [if_pos rfl, if_pos (by omega)]
   ·rw [if_neg hjk]
    exact i2 j c2 (by omega) hc2)
 rw [o1, Option.bind_some, Lp.andThen_fin]
 obtain ⟨d1, e1, e2, e3, e4, e5, e6⟩ := Ze (R := zT) (b := (fun k158 s172 => Option.bind (idx people (k158 : Int)) fun x193 => Option.bind (idx op x193.calendar) fun x212 => Option.bind (if x212 = true then (Option.bind (idx away (k158 : Int)) fun x223 => some (!x223)) else (some false)) fun s218 => Option.bind (idx s172.duty (k158 : Int)) fun x227 => Option.bind (setI s172.duty (k158 : Int) s218) fun x235 => Option.bind (idx s172.latest (k158 : Int)) fun x239 => Option.bind (setI s172.latest (k158 : Int) (-1)) fun x244 => some (.nx (⟨s172.people, x235, s172.weights, x244⟩ : zT))))
  people.length (fun k s => s.people = people ∧ s.weights = ws ∧ s.duty.length = people.length ∧ s.latest.length = people.length ∧ ∀ (j : Nat) (p : zd), j < k → people[j]? = some p → s.duty[j]? = some (zbJ people cals away m j) ∧ s.latest[j]? = some (-1))
  (s := (⟨people, List.replicate people.length false, ws, List.replicate people.length 0⟩ : zT))
  ⟨rfl, rfl, by simp, by simp, fun j c h => absurd h (Nat.not_lt_zero _)⟩
  (by
   rintro k s hk ⟨i1, i2, i3, i4, i5⟩
   have hx : people[k]? = some people[k] := List.getElem?_eq_getElem hk
   generalize people[k] = p at hx
   obtain ⟨c, c1, c2, c3⟩ := ziE hd hx
   have hop : idx op p.calendar = some (opn c m) := by
    unfold idx
    rw [if_pos (hd.has k p hx).1]
    exact o3 _ c (List.getElem?_eq_some_iff.1 c2).1 c2
   have hak : away[k]? = some away[k] := List.getElem?_eq_getElem (by omega)
   have hs18 : (if opn c m = true then (Option.bind (idx away (k : Int)) fun x223 => some (!x223)) else (some false)) = some (zbJ people cals away m k) := by
    unfold zbJ onB
    simp only [zP, hx, hak, c1, Option.bind_some]
    cases opn c m <;> rfl
   have hs1 : s.duty[k]? = some s.duty[k] := List.getElem?_eq_getElem (by omega)
   have hs2 : s.latest[k]? = some s.latest[k] := List.getElem?_eq_getElem (by omega)
   simp only [zP people, hx, Option.bind_some, hop, hs18]
   simp only [zP, hs1, hs2, Option.bind_some, QC s.duty k _ (show k < s.duty.length by omega), QC s.latest k _ (show k < s.latest.length by omega)]
   refine ⟨_, rfl, i1, i2, by simpa using i3, by simpa using i4, fun j q hj hq => ?_⟩
   dsimp only
   rw [List.getElem?_set, List.getElem?_set]
   by_cases hjk : k = j
   ·subst hjk
    exact ⟨by rw [if_pos rfl, if_pos (by omega)], by rw [if_pos rfl, if_pos (by omega)]⟩
   ·rw [if_neg hjk, if_neg hjk]
    exact i5 j q (by omega) hq)
 rw [e1, Option.bind_some, Lp.andThen_fin]
 obtain ⟨d2, f1, f2, f3, f4, f5, f6⟩ := Ze (R := zT) (b := (fun k254 s268 => Option.bind (idx held (k254 : Int)) fun x289 => Option.bind (qf people x289.person) fun x307 => Option.bind (idx s268.latest x307) fun x311 => Option.bind (setI s268.latest x307 (if x311 < x289.since then x289.since else x311)) fun x324 => some (.nx (⟨s268.people, s268.duty, s268.weights, x324⟩ : zT))))
  held.length (fun k s => s.people = people ∧ s.weights = ws ∧ s.duty = d1.duty ∧ s.latest.length = people.length ∧ ∀ (i : Nat) (p : zd), people[i]? = some p → s.latest[i]? = some (lOf (held.take k) p.no)) (s := d1)
  ⟨e2, e3, rfl, e5, fun i p hi => by rw [(e6 i p (List.getElem?_eq_some_iff.1 hi).1 hi).2]; rfl⟩
  (by
   rintro k s hk ⟨i1, i2, i3, i4, i5⟩
   have hx : held[k]? = some held[k] := List.getElem?_eq_getElem hk
   obtain ⟨hw, hps⟩ := ho.2 _ (List.getElem_mem hk)
   generalize held[k] = x at hx hw hps
   obtain ⟨i0, p0, g1, g2, g3⟩ := zfk hps
   have hs0 := i5 i0 p0 g2
   have hlt := (List.getElem?_eq_some_iff.1 hs0).1
   simp only [zP, hx, zaN, g1, hs0, QC _ _ _ hlt, Option.bind_some]
   refine ⟨_, rfl, i1, i2, i3, by simpa using i4, fun i p hi => ?_⟩
   dsimp only
   rw [zaB hx, zhC, List.getElem?_set]
   by_cases hii : i0 = i
   ·subst hii
    rw [g2] at hi
    cases hi
    rw [if_pos rfl, if_pos hlt, if_pos g3.symm]
   ·rw [if_neg hii, i5 i p hi]
    have : ¬ x.person = p.no := fun h => hii (zbq hp g2 hi (by omega))
    rw [if_neg this])
 rw [f1, Option.bind_some, Lp.andThen_fin]
 rw [List.take_length] at f6
 refine ⟨d2, rfl, f2, fun i p hi => ?_, by rw [f3]; exact w2, fun i p hi => by rw [f3]; exact w3 i p hi, f5, f6⟩
 rw [f4]
 exact (e6 i p (List.getElem?_eq_some_iff.1 hi).1 hi).1
end Go.Proofs.YtiblagcmjobknaaGreatDoor.M
